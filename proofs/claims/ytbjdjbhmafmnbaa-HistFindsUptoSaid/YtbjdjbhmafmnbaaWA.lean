/-
  A walk through a history in memory: none, Place, Here, To.
-/
import Derived.Test.YtbjdjbhmafmnbaaHD
import Derived.Test.YtbjdjbhmafmnbaaHF
import Derived.Test.YtbjdjbhmafmnbaaHQ
import Derived.Test.YtbjdjbhmafmnbaaHS
namespace Go.Proofs.Ytbjdjbhmafmnbaa
open Go.RowKit Go.Proofs.YtbjdjbhmafmnbaaW.PrintWords Go.Proofs.YtbjdjbhmafmnbaaW.PrintLast Go.Proofs.YtbjdjbhmafmnbaaW.PrintMore Go.Proofs.Ytbjdjbhmafmnbaa.PAll
set_option linter.unusedVariables false
set_option linter.unusedSimpArgs false

/-- No block is both's. -/
def Apart (u v : Value) : Prop := ∀ k, some k = u.ownBlock → some k = v.ownBlock → False
theorem Apart.grow {w : World} {u v v1 : Value} (h : Apart u v) (hat : v1.ownBlock = v.ownBlock ∨ ∃ b, v1.ownBlock = some b ∧ w.heap.size ≤ b) (hlt : ∀ k, u.ownBlock = some k → k < w.heap.size) : Apart u v1 := fun k h1 h2 => by
  rcases hat with e | ⟨b, e, hb⟩
  · exact h k h1 (h2.trans e)
  · rw [e] at h2
    have := hlt k h1.symm
    cases h2
    omega
/-- A row of one-cell elements lies in one block. -/
theorem R_one1 {α : Type} {enc : α → Value} {h1 : ∀ x, (enc x).oneCell' = true} {e : Nat} {w : World} {base : Nat} {ok : Nat → Prop} {v : Value} {xs : List α} (h : Kd.R (Kd.scalar enc h1) e w base ok v xs) : Kd.R (Kd.scalar enc h1) e w base (fun k => some k = v.ownBlock) v xs :=
  Kd.R_of_own (Kd.own_of_R h) (fun k hk => hk.symm)
theorem R_one1_fr {α : Type} {enc : α → Value} {h1 : ∀ x, (enc x).oneCell' = true} {e : Nat} {w w' : World} {base : Nat} {ok : Nat → Prop} {v : Value} {xs : List α} {N : Nat → Prop} (h : Kd.R (Kd.scalar enc h1) e w base ok v xs) (hf : Fr N w w') (hN : ∀ k, some k = v.ownBlock → ¬ N k) : Kd.R (Kd.scalar enc h1) e w' base (fun _ => True) v xs :=
  Kd.R_mono (R_fr (R_one1 h) hf hN) (fun _ _ => trivial)

theorem HL.set_ {w : World} {B g : Nat} {v : Value} {h : Hs} (hl : HL w B g v h) {g' t : Nat} {cells : Array Value} (hb : w.heap[g']? = some (.cells cells t (0, 0))) (h1 : (87 : Nat) ≠ t) (h2 : ∀ q, q ∈ 36 :: k36.E → q ≠ t) (j : Nat) (u : Value) : HL (w.setCell ⟨g', j, none⟩ u) B g v h :=
  ⟨blk_far hl.box (p := ⟨g', j, none⟩) (blk_ne hl.box hb h1) u, Kd.R_set hl.row hb h2 j u⟩
structure Wk where
  was : List ByteArray
  now : List ByteArray
  place : Nat
structure WL (w : World) (B g : Nat) (u v : Value) (q : Wk) : Prop where
  box : w.heap[g]? = some (.cells #[u, v, .int .i64 (q.place : Int)] 96 (0, 0))
  was : Kd.R Kd.string 9 w B (fun _ => True) u q.was
  now : Kd.R Kd.string 9 w B (fun _ => True) v q.now
  apart : Apart u v
theorem WL.below {w w' : World} {B g : Nat} {u v : Value} {q : Wk} (h : WL w B g u v q) (hb : Below w.heap.size w w') : WL w' B g u v q := ⟨blk_below h.box hb, Kd.R_below h.was hb, Kd.R_below h.now hb, h.apart⟩
theorem WL.drewN {w : World} {B g : Nat} {u v : Value} {q : Wk} (h : WL w B g u v q) (n : Nat) : WL (w.drewN n) B g u v q := h.below (pw_below_drewN (Below.refl _ _) n)
theorem WL.fr {w w' : World} {B g : Nat} {u v : Value} {q : Wk} {N : Nat → Prop} (h : WL w B g u v q) (hf : Fr N w w') (hg : ¬ N g) (hu : ∀ k, some k = u.ownBlock → ¬ N k) (hv : ∀ k, some k = v.ownBlock → ¬ N k) : WL w' B g u v q :=
  ⟨hf.blk h.box hg, R_one1_fr h.was hf hu, R_one1_fr h.now hf hv, h.apart⟩
theorem WL.set_ {w : World} {B g : Nat} {u v : Value} {q : Wk} (h : WL w B g u v q) {g' t : Nat} {cells : Array Value} (hb : w.heap[g']? = some (.cells cells t (0, 0))) (h1 : (96 : Nat) ≠ t) (h2 : ∀ e, e ∈ 9 :: Kd.string.E → e ≠ t) (j : Nat) (x : Value) : WL (w.setCell ⟨g', j, none⟩ x) B g u v q :=
  ⟨blk_far h.box (p := ⟨g', j, none⟩) (blk_ne h.box hb h1) x, Kd.R_set h.was hb h2 j x, Kd.R_set h.now hb h2 j x, h.apart⟩
theorem WL.c0 {w : World} {B g : Nat} {u v : Value} {q : Wk} (h : WL w B g u v q) : w.cell? ⟨g, 0, none⟩ = some u := (blk_cell h.box 0).trans rfl
theorem WL.c1 {w : World} {B g : Nat} {u v : Value} {q : Wk} (h : WL w B g u v q) : w.cell? ⟨g, 1, none⟩ = some v := (blk_cell h.box 1).trans rfl
theorem WL.c2 {w : World} {B g : Nat} {u v : Value} {q : Wk} (h : WL w B g u v q) : w.cell? ⟨g, 2, none⟩ = some (.int .i64 (q.place : Int)) := (blk_cell h.box 2).trans rfl

theorem wnone_nil (w : World) : Calls Try.prog 48 #[.pointer none] w fun e w' => e = .returned (.bool true) ∧ w = w' := by
  go_enter Try.func48, Try.ntmps48
  go_wp2
  go_ret
  exact ⟨rfl, rfl⟩
theorem wnone_zero {w : World} {g : Nat} {u m : Value} (hl : w.heap[g]? = some (.cells #[u, .slice none 0 0, m] 96 (0, 0))) : Calls Try.prog 48 #[.pointer (some ⟨g, 0, none⟩)] w fun e w' => e = .returned (.bool true) ∧ w = w' := by
  have h1 : w.cell? ⟨g, 1, none⟩ = some (.slice none 0 0) := (blk_cell hl 1).trans rfl
  go_enter Try.func48, Try.ntmps48
  go_wp2
  go_ret
  exact ⟨rfl, rfl⟩
theorem wnone_calls {w : World} {B g : Nat} {u v : Value} {q : Wk} (h : WL w B g u v q) (hn : 0 < q.now.length) : Calls Try.prog 48 #[.pointer (some ⟨g, 0, none⟩)] w fun e w' => e = .returned (.bool false) ∧ w = w' := by
  have h1 := h.c1
  obtain ⟨A, c, rfl⟩ := Kd.R_slice h.now
  have e1 : ((q.now.length : Int) == 0) = false := by rw [beq_eq_false_iff_ne]; omega
  have e2 : (q.now.length == 0) = false := by rw [beq_eq_false_iff_ne]; omega
  go_enter Try.func48, Try.ntmps48
  go_wp2
  go_ret
  refine ⟨?_, rfl⟩
  first | rfl | (simp; omega)
theorem place_calls {w : World} {B g : Nat} {u v : Value} {q : Wk} (h : WL w B g u v q) (hn : 0 < q.now.length) : Calls Try.prog 18 #[.pointer (some ⟨g, 0, none⟩)] w fun e w' => e = .returned (.int .i64 (q.place : Int)) ∧ w = w' := by
  have h1 := h.c2
  go_enter Try.func18, Try.ntmps18
  go_wp2_with (go_at_call 48; refine (wnone_calls h hn).mono ?_; rintro e w' ⟨rfl, rfl⟩)
  go_ret
  exact ⟨rfl, rfl⟩
/-- A text of a row. -/
theorem at_str {w : World} {A : Option Addr} {n : Nat} {xs : List ByteArray} (h : Kd.C Kd.string w A n xs) (i : Nat) (hi : i < xs.length) (hn : xs.length = n) : ∃ ad, A = some ad ∧ w.cell? (ad.add i) = some (.string xs[i]) := by
  obtain ⟨ad, e, hc⟩ := Kd.at_string h (i : Int) (by omega) (by omega)
  refine ⟨ad, e, ?_⟩
  rw [Int.toNat_natCast] at hc
  rw [hc]
  simp [rdOf, List.getD, List.getElem?_eq_getElem hi]
theorem here_calls {w : World} {B g : Nat} {u v : Value} {q : Wk} (h : WL w B g u v q) (i : Nat) (hi : i < q.now.length) : Calls Try.prog 25 #[.pointer (some ⟨g, 0, none⟩), .int .i64 (i : Int)] w fun e w' => e = .returned (.tuple #[.string q.now[i], .bool true]) ∧ w = w' := by
  have h1 := h.c1
  obtain ⟨A, c, rfl⟩ := Kd.R_slice h.now
  obtain ⟨ad, rfl, hx⟩ := at_str (Kd.R_reads' h.now).2.2 i hi rfl
  have e1 : decide (q.now.length ≤ i) = false := by simp; omega
  have hn : 0 < q.now.length := by omega
  generalize q.now[i] = s at hx
  go_enter Try.func25, Try.ntmps25
  go_wp2_with (go_at_call 48; refine (wnone_calls h hn).mono ?_; rintro e w' ⟨rfl, rfl⟩)
  go_ret2
  exact ⟨rfl, rfl⟩
theorem here_out {w : World} {B g : Nat} {u v : Value} {q : Wk} (h : WL w B g u v q) (hn : 0 < q.now.length) (i : Int) (hi : i < 0 ∨ (q.now.length : Int) ≤ i) : Calls Try.prog 25 #[.pointer (some ⟨g, 0, none⟩), .int .i64 i] w fun e w' => e = .returned (.tuple #[.string ⟨#[]⟩, .bool false]) ∧ w = w' := by
  have h1 := h.c1
  obtain ⟨A, c, rfl⟩ := Kd.R_slice h.now
  by_cases h2 : i < 0
  · go_enter Try.func25, Try.ntmps25
    go_wp2_with (go_at_call 48; refine (wnone_calls h hn).mono ?_; rintro e w' ⟨rfl, rfl⟩)
    go_ret2
    exact ⟨rfl, rfl⟩
  · have h3 : (q.now.length : Int) ≤ i := by omega
    go_enter Try.func25, Try.ntmps25
    go_wp2_with (go_at_call 48; refine (wnone_calls h hn).mono ?_; rintro e w' ⟨rfl, rfl⟩)
    go_ret2
    exact ⟨rfl, rfl⟩

/-! ### To -/
theorem to_out {w : World} {B g : Nat} {u v : Value} {q : Wk} (h : WL w B g u v q) (hn : 0 < q.now.length) (i : Int) (hi : i < 0 ∨ (q.now.length : Int) ≤ i) (s : ByteArray) :
    Calls Try.prog 19 #[.pointer (some ⟨g, 0, none⟩), .int .i64 i, .string s] w fun e w' => e = .returned (.tuple #[.string ⟨#[]⟩, .int .i64 6]) ∧ w = w' := by
  have h1 := h.c1
  obtain ⟨A, c, rfl⟩ := Kd.R_slice h.now
  by_cases h2 : i < 0
  · go_enter Try.func19, Try.ntmps19
    go_wp2_with (go_at_call 48; refine (wnone_calls h hn).mono ?_; rintro e w' ⟨rfl, rfl⟩)
    go_ret2
    exact ⟨rfl, rfl⟩
  · have h3 : (q.now.length : Int) ≤ i := by omega
    go_enter Try.func19, Try.ntmps19
    go_wp2_with (go_at_call 48; refine (wnone_calls h hn).mono ?_; rintro e w' ⟨rfl, rfl⟩)
    go_ret2
    exact ⟨rfl, rfl⟩
theorem to_long {w : World} {B g : Nat} {u v : Value} {q : Wk} (h : WL w B g u v q) (i : Nat) (hi : i < q.now.length) (s : ByteArray) (hs : 16384 < s.size) :
    Calls Try.prog 19 #[.pointer (some ⟨g, 0, none⟩), .int .i64 (i : Int), .string s] w fun e w' => e = .returned (.tuple #[.string ⟨#[]⟩, .int .i64 3]) ∧ w = w' := by
  have h1 := h.c1
  obtain ⟨A, c, rfl⟩ := Kd.R_slice h.now
  have e1 : decide (q.now.length ≤ i) = false := by simp; omega
  have hn : 0 < q.now.length := by omega
  have e3 : decide (16384 < s.size) = true := by simpa using hs
  go_enter Try.func19, Try.ntmps19
  go_wp2_with (go_at_call 48; refine (wnone_calls h hn).mono ?_; rintro e w' ⟨rfl, rfl⟩)
  go_ret2
  exact ⟨rfl, rfl⟩
def Wk.to (q : Wk) (i : Nat) (s : ByteArray) : Wk := ⟨q.was, q.now.set q.place s, i⟩
set_option maxHeartbeats 1000000 in
theorem to_calls {w : World} {B g : Nat} {u v : Value} {q : Wk} (h : WL w B g u v q) (i : Nat) (hi : i < q.now.length) (hp : q.place < q.now.length) (s : ByteArray) (hs : s.size ≤ 16384) :
    Calls Try.prog 19 #[.pointer (some ⟨g, 0, none⟩), .int .i64 (i : Int), .string s] w fun e w' => e = .returned (.tuple #[.string ((q.now.set q.place s)[i]'(by simpa using hi)), .int .i64 0]) ∧ WL w' B g u v (q.to i s) ∧ Fr (fun k => k = g ∨ some k = v.ownBlock) w w' := by
  have h1 := h.c1
  have h2 := h.c2
  have hn : 0 < q.now.length := by omega
  obtain ⟨b, c, rfl, hbB, hbw, _⟩ := Kd.R_form h.now hn
  have e1 : decide (q.now.length ≤ i) = false := by simp; omega
  have e3 : decide (16384 < s.size) = false := by simpa using hs
  have hcell := Kd.R_cell (⟨#[]⟩ : ByteArray) h.now (q.place : Int) (by omega) (by omega)
  rw [Int.toNat_natCast] at hcell
  obtain ⟨hc1, hc2⟩ := hcell
  have hput := Kd.R_put h.now (q.place : Int) s
  rw [Int.toNat_natCast] at hput
  obtain ⟨hR1, hG1⟩ := hput
  have hne : g ≠ b := fun e => Kd.R_ne h.now h.box (by decide) (by rw [e]; rfl)
  have hb1 := blk_far h.box (p := ⟨b, q.place, none⟩) hne (.string s)
  have hk1 : (w.setCell ⟨b, q.place, none⟩ (.string s)).cell? ⟨g, 1, none⟩ = some (.slice (some ⟨b, 0, none⟩) q.now.length c) := (blk_cell hb1 1).trans rfl
  have hk2 : (w.setCell ⟨b, q.place, none⟩ (.string s)).cell? ⟨g, 2, none⟩ = some (.int .i64 (q.place : Int)) := (blk_cell hb1 2).trans rfl
  have hf2 := blk_frozen hb1 2
  have hk3 : (w.setCell ⟨b, q.place, none⟩ (.string s)).cell? ⟨b, i, none⟩ = some (.string ((q.now.set q.place s)[i]'(by simpa using hi))) := by
    have h3 := (Kd.R_celln (⟨#[]⟩ : ByteArray) hR1 (i : Int) (by omega) (by omega)).1
    rw [Int.toNat_natCast] at h3
    rw [h3]
    simp [rdOf, List.getD, List.getElem?_eq_getElem (show i < (q.now.set q.place s).length by simpa using hi)]
  generalize ((q.now.set q.place s)[i]'(by simpa using hi)) = t at hk3
  have p1 : (q.place : Int) < (q.now.length : Int) := by omega
  have p0 : 0 ≤ (q.place : Int) := by omega
  have i1 : (i : Int) < (q.now.length : Int) := by omega
  go_enter Try.func19, Try.ntmps19
  go_wp2_with (go_at_call 48; refine (wnone_calls h hn).mono ?_; rintro e w' ⟨rfl, rfl⟩)
  go_region
  go_wp2
  go_ret2
  refine ⟨rfl, ⟨?_, ?_, ?_, h.apart⟩, ?_⟩
  · exact blk_put hb1 2 (.int .i64 (i : Int)) rfl
  · exact Kd.R_set (R_one1_fr h.was (Fr.of_grown (N := fun k => some k = (some b : Option Nat)) hG1 (fun k hk => hk.symm)) (fun k e1 e2 => h.apart k e1 e2)) hb1 (by decide) 2 _
  · exact Kd.R_set hR1 hb1 (by decide) 2 _
  · exact ((Fr.of_grown (N := fun k => k = g ∨ some k = (Value.slice (some ⟨b, 0, none⟩) q.now.length c).ownBlock) hG1 (fun k hk => .inr hk.symm)).set (p := ⟨g, 2, none⟩) (.inl (.inl rfl)) _).drewN 1
end Go.Proofs.Ytbjdjbhmafmnbaa
