/-
  The document's walk in memory: To, Here, NewWalk.
-/
import Derived.Test.YtbjdjbhmafmnbaaRA
import Derived.Test.YtbjdjbhmafmnbaaWD
namespace Go.Proofs.Ytbjdjbhmafmnbaa
open Go.RowKit Go.Proofs.YtbjdjbhmafmnbaaW.PrintWords Go.Proofs.YtbjdjbhmafmnbaaW.PrintLast Go.Proofs.YtbjdjbhmafmnbaaW.PrintMore Go.Proofs.Ytbjdjbhmafmnbaa.PAll
set_option linter.unusedVariables false
set_option linter.unusedSimpArgs false

structure XL (w : World) (B g : Nat) (u v : Value) (q : Wk) : Prop where
  box : w.heap[g]? = some (.cells #[u, v, .int .i64 (q.place : Int)] 64 (0, 0))
  was : Kd.R Kd.string 9 w B (fun _ => True) u q.was
  now : Kd.R Kd.string 9 w B (fun _ => True) v q.now
  apart : Apart u v
theorem XL.below {w w' : World} {B g : Nat} {u v : Value} {q : Wk} (h : XL w B g u v q) (hb : Below w.heap.size w w') : XL w' B g u v q := ⟨blk_below h.box hb, Kd.R_below h.was hb, Kd.R_below h.now hb, h.apart⟩
theorem XL.drewN {w : World} {B g : Nat} {u v : Value} {q : Wk} (h : XL w B g u v q) (n : Nat) : XL (w.drewN n) B g u v q := h.below (pw_below_drewN (Below.refl _ _) n)
theorem XL.fr {w w' : World} {B g : Nat} {u v : Value} {q : Wk} {N : Nat → Prop} (h : XL w B g u v q) (hf : Fr N w w') (hg : ¬ N g) (hu : ∀ k, some k = u.ownBlock → ¬ N k) (hv : ∀ k, some k = v.ownBlock → ¬ N k) : XL w' B g u v q :=
  ⟨hf.blk h.box hg, R_one1_fr h.was hf hu, R_one1_fr h.now hf hv, h.apart⟩
theorem XL.set_ {w : World} {B g : Nat} {u v : Value} {q : Wk} (h : XL w B g u v q) {g' t : Nat} {cells : Array Value} (hb : w.heap[g']? = some (.cells cells t (0, 0))) (h1 : (64 : Nat) ≠ t) (h2 : ∀ e, e ∈ 9 :: Kd.string.E → e ≠ t) (j : Nat) (x : Value) : XL (w.setCell ⟨g', j, none⟩ x) B g u v q :=
  ⟨blk_far h.box (p := ⟨g', j, none⟩) (blk_ne h.box hb h1) x, Kd.R_set h.was hb h2 j x, Kd.R_set h.now hb h2 j x, h.apart⟩
theorem XL.c0 {w : World} {B g : Nat} {u v : Value} {q : Wk} (h : XL w B g u v q) : w.cell? ⟨g, 0, none⟩ = some u := (blk_cell h.box 0).trans rfl
theorem XL.c1 {w : World} {B g : Nat} {u v : Value} {q : Wk} (h : XL w B g u v q) : w.cell? ⟨g, 1, none⟩ = some v := (blk_cell h.box 1).trans rfl
theorem XL.c2 {w : World} {B g : Nat} {u v : Value} {q : Wk} (h : XL w B g u v q) : w.cell? ⟨g, 2, none⟩ = some (.int .i64 (q.place : Int)) := (blk_cell h.box 2).trans rfl

theorem rhere_calls {w : World} {B g : Nat} {u v : Value} {q : Wk} (h : XL w B g u v q) (i : Nat) (hi : i < q.now.length) : Calls Try.prog 26 #[.pointer (some ⟨g, 0, none⟩), .int .i64 (i : Int)] w fun e w' => e = .returned (.tuple #[.string q.now[i], .bool true]) ∧ w = w' := by
  have h1 := h.c1
  obtain ⟨A, c, rfl⟩ := Kd.R_slice h.now
  obtain ⟨ad, rfl, hx⟩ := at_str (Kd.R_reads' h.now).2.2 i hi rfl
  have e1 : decide (q.now.length ≤ i) = false := by simp; omega
  have hn : 0 < q.now.length := by omega
  generalize q.now[i] = s at hx
  go_enter Try.func26, Try.ntmps26
  go_wp2
  go_ret2
  exact ⟨rfl, rfl⟩
theorem rhere_out {w : World} {B g : Nat} {u v : Value} {q : Wk} (h : XL w B g u v q) (hn : 0 < q.now.length) (i : Int) (hi : i < 0 ∨ (q.now.length : Int) ≤ i) : Calls Try.prog 26 #[.pointer (some ⟨g, 0, none⟩), .int .i64 i] w fun e w' => e = .returned (.tuple #[.string ⟨#[]⟩, .bool false]) ∧ w = w' := by
  have h1 := h.c1
  obtain ⟨A, c, rfl⟩ := Kd.R_slice h.now
  by_cases h2 : i < 0
  · go_enter Try.func26, Try.ntmps26
    go_wp2
    go_ret2
    exact ⟨rfl, rfl⟩
  · have h3 : (q.now.length : Int) ≤ i := by omega
    go_enter Try.func26, Try.ntmps26
    go_wp2
    go_ret2
    exact ⟨rfl, rfl⟩

/-! ### To -/
theorem rto_out {w : World} {B g : Nat} {u v : Value} {q : Wk} (h : XL w B g u v q) (hn : 0 < q.now.length) (i : Int) (hi : i < 0 ∨ (q.now.length : Int) ≤ i) (s : ByteArray) :
    Calls Try.prog 24 #[.pointer (some ⟨g, 0, none⟩), .int .i64 i, .string s] w fun e w' => e = .returned (.tuple #[.string ⟨#[]⟩, .int .i64 6]) ∧ w = w' := by
  have h1 := h.c1
  obtain ⟨A, c, rfl⟩ := Kd.R_slice h.now
  by_cases h2 : i < 0
  · go_enter Try.func24, Try.ntmps24
    go_wp2
    go_ret2
    exact ⟨rfl, rfl⟩
  · have h3 : (q.now.length : Int) ≤ i := by omega
    go_enter Try.func24, Try.ntmps24
    go_wp2
    go_ret2
    exact ⟨rfl, rfl⟩
theorem rto_long {w : World} {B g : Nat} {u v : Value} {q : Wk} (h : XL w B g u v q) (i : Nat) (hi : i < q.now.length) (s : ByteArray) (hs : 16384 < s.size) :
    Calls Try.prog 24 #[.pointer (some ⟨g, 0, none⟩), .int .i64 (i : Int), .string s] w fun e w' => e = .returned (.tuple #[.string ⟨#[]⟩, .int .i64 3]) ∧ w = w' := by
  have h1 := h.c1
  obtain ⟨A, c, rfl⟩ := Kd.R_slice h.now
  have e1 : decide (q.now.length ≤ i) = false := by simp; omega
  have hn : 0 < q.now.length := by omega
  have e3 : decide (16384 < s.size) = true := by simpa using hs
  go_enter Try.func24, Try.ntmps24
  go_wp2
  go_ret2
  exact ⟨rfl, rfl⟩
set_option maxHeartbeats 1000000 in
theorem rto_calls {w : World} {B g : Nat} {u v : Value} {q : Wk} (h : XL w B g u v q) (i : Nat) (hi : i < q.now.length) (hp : q.place < q.now.length) (s : ByteArray) (hs : s.size ≤ 16384) :
    Calls Try.prog 24 #[.pointer (some ⟨g, 0, none⟩), .int .i64 (i : Int), .string s] w fun e w' => e = .returned (.tuple #[.string ((q.now.set q.place s)[i]'(by simpa using hi)), .int .i64 0]) ∧ XL w' B g u v (q.to i s) ∧ Fr (fun k => k = g ∨ some k = v.ownBlock) w w' := by
  have h1 := h.c1
  have h2 := h.c2
  have hn : 0 < q.now.length := by omega
  obtain ⟨b, c, rfl, hbB, hbw, _⟩ := Kd.R_form h.now hn
  have e1 : decide (q.now.length ≤ i) = false := by simp; omega
  have e3 : decide (16384 < s.size) = false := by simpa using hs
  have hcell := Kd.R_cell (⟨#[]⟩ : ByteArray) h.now (q.place : Int) (by omega) (by omega)
  rw [Int.toNat_natCast] at hcell
  obtain ⟨hc1, hc2⟩ := hcell
  have hput := Kd.R_put h.now (q.place : Int) s
  rw [Int.toNat_natCast] at hput
  obtain ⟨hR1, hG1⟩ := hput
  have hne : g ≠ b := fun e => Kd.R_ne h.now h.box (by decide) (by rw [e]; rfl)
  have hb1 := blk_far h.box (p := ⟨b, q.place, none⟩) hne (.string s)
  have hk1 : (w.setCell ⟨b, q.place, none⟩ (.string s)).cell? ⟨g, 1, none⟩ = some (.slice (some ⟨b, 0, none⟩) q.now.length c) := (blk_cell hb1 1).trans rfl
  have hk2 : (w.setCell ⟨b, q.place, none⟩ (.string s)).cell? ⟨g, 2, none⟩ = some (.int .i64 (q.place : Int)) := (blk_cell hb1 2).trans rfl
  have hf2 := blk_frozen hb1 2
  have hk3 : (w.setCell ⟨b, q.place, none⟩ (.string s)).cell? ⟨b, i, none⟩ = some (.string ((q.now.set q.place s)[i]'(by simpa using hi))) := by
    have h3 := (Kd.R_celln (⟨#[]⟩ : ByteArray) hR1 (i : Int) (by omega) (by omega)).1
    rw [Int.toNat_natCast] at h3
    rw [h3]
    simp [rdOf, List.getD, List.getElem?_eq_getElem (show i < (q.now.set q.place s).length by simpa using hi)]
  generalize ((q.now.set q.place s)[i]'(by simpa using hi)) = t at hk3
  have p1 : (q.place : Int) < (q.now.length : Int) := by omega
  have p0 : 0 ≤ (q.place : Int) := by omega
  have i1 : (i : Int) < (q.now.length : Int) := by omega
  go_enter Try.func24, Try.ntmps24
  go_wp2
  go_region
  go_wp2
  go_ret2
  refine ⟨rfl, ⟨?_, ?_, ?_, h.apart⟩, ?_⟩
  · exact blk_put hb1 2 (.int .i64 (i : Int)) rfl
  · exact Kd.R_set (R_one1_fr h.was (Fr.of_grown (N := fun k => some k = (some b : Option Nat)) hG1 (fun k hk => hk.symm)) (fun k e1 e2 => h.apart k e1 e2)) hb1 (by decide) 2 _
  · exact Kd.R_set hR1 hb1 (by decide) 2 _
  · exact ((Fr.of_grown (N := fun k => k = g ∨ some k = (Value.slice (some ⟨b, 0, none⟩) q.now.length c).ownBlock) hG1 (fun k hk => .inr hk.symm)).set (p := ⟨g, 2, none⟩) (.inl (.inl rfl)) _).drewN 1
end Go.Proofs.Ytbjdjbhmafmnbaa
