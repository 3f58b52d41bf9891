/-
  A history in memory: what its methods do (New, Len, Base, Most, Add and what they lean on).
-/
import Derived.Test.YtbjdjbhmafmnbaaPAllx1
import Derived.Lib.LazyBuf
namespace Go.Proofs.Ytbjdjbhmafmnbaa
open Go.RowKit Go.Proofs.YtbjdjbhmafmnbaaW.PrintWords Go.Proofs.YtbjdjbhmafmnbaaW.PrintLast Go.Proofs.YtbjdjbhmafmnbaaW.PrintMore Go.Proofs.Ytbjdjbhmafmnbaa.PAll
set_option linter.unusedVariables false
set_option linter.unusedSimpArgs false
attribute [local go_sem] max2_int min2_int max_two min_two max_three min_three max_four min_four

/-- What has changed lies in N, or is new. -/
structure Fr (N : Nat → Prop) (w w' : World) : Prop where
  os : w'.os = w.os
  tape : w'.tape = w.tape
  output : w'.output = w.output
  size : w.heap.size ≤ w'.heap.size
  block : ∀ k, k < w.heap.size → ¬ N k → w'.heap[k]? = w.heap[k]?
theorem Fr.refl (N : Nat → Prop) (w : World) : Fr N w w := ⟨rfl, rfl, rfl, Nat.le_refl _, fun _ _ _ => rfl⟩
theorem Fr.trans {N N' : Nat → Prop} {a b c : World} (h : Fr N a b) (k : Fr N' b c) (hN : ∀ i, i < a.heap.size → N' i → N i) : Fr N a c :=
  ⟨k.os.trans h.os, k.tape.trans h.tape, k.output.trans h.output, Nat.le_trans h.size k.size, fun i hi hn => (k.block i (Nat.lt_of_lt_of_le hi h.size) (fun h' => hn (hN i hi h'))).trans (h.block i hi hn)⟩
theorem Fr.mono {N N' : Nat → Prop} {a b : World} (h : Fr N a b) (hN : ∀ i, i < a.heap.size → N i → N' i) : Fr N' a b := ⟨h.os, h.tape, h.output, h.size, fun i hi hn => h.block i hi (fun h' => hn (hN i hi h'))⟩
theorem Fr.of_below {N : Nat → Prop} {a b : World} (h : Below a.heap.size a b) : Fr N a b := ⟨h.os, h.tape, h.output, h.size, fun i hi _ => h.block i hi⟩
theorem Fr.of_grown {N : Nat → Prop} {a b : World} {row : Option Nat} (h : a.grownBy b row) (hN : ∀ k, row = some k → N k) : Fr N a b := ⟨h.os, h.tape, h.output, h.size, fun i hi hn => h.block i hi (fun e => hn (hN i e.symm))⟩
theorem Fr.set {N : Nat → Prop} {a b : World} (h : Fr N a b) {p : Addr} (hp : N p.block ∨ a.heap.size ≤ p.block) (u : Value) : Fr N a (b.setCell p u) :=
  ⟨by rw [← h.os]; exact (Below.refl 0 b).setCell (Nat.zero_le _) u |>.os, by rw [← h.tape]; exact (Below.refl 0 b).setCell (Nat.zero_le _) u |>.tape, by rw [← h.output]; exact (Below.refl 0 b).setCell (Nat.zero_le _) u |>.output, by
    have := (Below.refl 0 b).setCell (p := p) (Nat.zero_le _) u |>.size
    have := h.size
    omega, fun i hi hn => (Below.heap_setCell b p u i (fun e => by subst e; rcases hp with hp | hp; exact hn hp; omega)).trans (h.block i hi hn)⟩
theorem Fr.drewN {N : Nat → Prop} {a b : World} (h : Fr N a b) (n : Nat) : Fr N a (b.drewN n) := ⟨h.os, h.tape, h.output, h.size, h.block⟩
theorem Fr.below {N : Nat → Prop} {a b : World} {B : Nat} (h : Fr N a b) (hN : ∀ k, N k → B ≤ k) (hB : B ≤ a.heap.size) : Below B a b :=
  ⟨h.os, h.tape, h.output, h.size, fun k hk => h.block k (Nat.lt_of_lt_of_le hk hB) (fun hn => by have := hN k hn; omega)⟩
theorem Fr.blk {N : Nat → Prop} {a b : World} (h : Fr N a b) {g : Nat} {o : Obj} (hb : a.heap[g]? = some o) (hn : ¬ N g) : b.heap[g]? = some o := (h.block g (blk_lt hb) hn).trans hb
theorem R_fr {α : Type} {d : Kd α} {e base : Nat} {ok : Nat → Prop} {v : Value} {xs : List α} {N : Nat → Prop} {a b : World} (h : Kd.R d e a base ok v xs) (hf : Fr N a b) (hN : ∀ k, ok k → ¬ N k) : Kd.R d e b base ok v xs :=
  Kd.R_step h (fun k hk hl => hf.block k hl (hN k hk))
/-- A row of plain elements lies in one block. -/
theorem R_one {w : World} {base : Nat} {ok : Nat → Prop} {v : Value} {xs : List S36} (h : Kd.R k36 36 w base ok v xs) : Kd.R k36 36 w base (fun k => some k = v.ownBlock) v xs := by
  obtain ⟨_, inner, ho, hr⟩ := h
  refine ⟨fun k hk => hk.symm, inner, ho, hr.imp_ (fun p cs hp => ?_)⟩
  rw [k36_openM hp]
  exact k36_mkM _ _ _ _
theorem R_one_fr {w w' : World} {base : Nat} {ok : Nat → Prop} {v : Value} {xs : List S36} {N : Nat → Prop} (h : Kd.R k36 36 w base ok v xs) (hf : Fr N w w') (hN : ∀ k, some k = v.ownBlock → ¬ N k) : Kd.R k36 36 w' base (fun _ => True) v xs :=
  Kd.R_mono (R_fr (R_one h) hf hN) (fun _ _ => trivial)

/-- A history. -/
structure Hs where
  lines : List S36
  base : Int
  most : Int
/-- It lies at block g; its lines' slice is v. -/
structure HL (w : World) (B g : Nat) (v : Value) (h : Hs) : Prop where
  box : w.heap[g]? = some (.cells #[v, .int .i64 h.base, .int .i64 h.most] 87 (0, 0))
  row : Kd.R k36 36 w B (fun _ => True) v h.lines
theorem HL.below {w w' : World} {B g : Nat} {v : Value} {h : Hs} (hl : HL w B g v h) (hb : Below w.heap.size w w') : HL w' B g v h := ⟨blk_below hl.box hb, Kd.R_below hl.row hb⟩
theorem HL.fr {w w' : World} {B g : Nat} {v : Value} {h : Hs} {N : Nat → Prop} (hl : HL w B g v h) (hf : Fr N w w') (hg : ¬ N g) (hN : ∀ k, some k = v.ownBlock → ¬ N k) : HL w' B g v h := ⟨hf.blk hl.box hg, R_one_fr hl.row hf hN⟩
theorem HL.c0 {w : World} {B g : Nat} {v : Value} {h : Hs} (hl : HL w B g v h) : w.cell? ⟨g, 0, none⟩ = some v := (blk_cell hl.box 0).trans rfl
theorem HL.c1 {w : World} {B g : Nat} {v : Value} {h : Hs} (hl : HL w B g v h) : w.cell? ⟨g, 1, none⟩ = some (.int .i64 h.base) := (blk_cell hl.box 1).trans rfl
theorem HL.c2 {w : World} {B g : Nat} {v : Value} {h : Hs} (hl : HL w B g v h) : w.cell? ⟨g, 2, none⟩ = some (.int .i64 h.most) := (blk_cell hl.box 2).trans rfl
theorem HL.slice {w : World} {B g : Nat} {v : Value} {h : Hs} (hl : HL w B g v h) : ∃ A c, v = .slice A h.lines.length c ∧ h.lines.length ≤ c ∧ Kd.C k36 w A h.lines.length h.lines := Kd.R_reads hl.row
theorem HL.ne {w : World} {B g : Nat} {v : Value} {h : Hs} (hl : HL w B g v h) : some g ≠ v.ownBlock := Kd.R_ne hl.row hl.box (by decide)

/-! ### none -/
theorem none_nil (w : World) : Calls Try.prog 42 #[.pointer none] w fun e w' => e = .returned (.bool true) ∧ w = w' := by
  go_enter Try.func42, Try.ntmps42
  go_wp2
  go_ret
  exact ⟨rfl, rfl⟩
theorem none_calls {w : World} {B g : Nat} {v : Value} {h : Hs} (hl : HL w B g v h) (hb : h.base ≠ 0) : Calls Try.prog 42 #[.pointer (some ⟨g, 0, none⟩)] w fun e w' => e = .returned (.bool false) ∧ w = w' := by
  have h1 := hl.c1
  have hb' : (h.base == 0) = false := by simpa using hb
  go_enter Try.func42, Try.ntmps42
  go_wp2
  go_ret
  exact ⟨rfl, rfl⟩
theorem none_zero {w : World} {g : Nat} {v m : Value} (hl : w.heap[g]? = some (.cells #[v, .int .i64 0, m] 87 (0, 0))) : Calls Try.prog 42 #[.pointer (some ⟨g, 0, none⟩)] w fun e w' => e = .returned (.bool true) ∧ w = w' := by
  have h1 : w.cell? ⟨g, 1, none⟩ = some (.int .i64 0) := (blk_cell hl 1).trans rfl
  go_enter Try.func42, Try.ntmps42
  go_wp2
  go_ret
  exact ⟨rfl, rfl⟩

/-! ### Len, Base -/
theorem len_calls {w : World} {B g : Nat} {v : Value} {h : Hs} (hl : HL w B g v h) (hb : h.base ≠ 0) : Calls Try.prog 12 #[.pointer (some ⟨g, 0, none⟩)] w fun e w' => e = .returned (.int .i64 (h.lines.length : Int)) ∧ w = w' := by
  have h0 := hl.c0
  obtain ⟨A, c, hv, _⟩ := hl.slice
  rw [hv] at h0
  clear hv
  go_enter Try.func12, Try.ntmps12
  go_wp2_with (go_at_call 42; refine (none_calls hl hb).mono ?_; rintro e w' ⟨rfl, rfl⟩)
  go_ret
  exact ⟨rfl, rfl⟩
theorem base_calls {w : World} {B g : Nat} {v : Value} {h : Hs} (hl : HL w B g v h) (hb : h.base ≠ 0) : Calls Try.prog 13 #[.pointer (some ⟨g, 0, none⟩)] w fun e w' => e = .returned (.int .i64 h.base) ∧ w = w' := by
  have h0 := hl.c1
  go_enter Try.func13, Try.ntmps13
  go_wp2_with (go_at_call 42; refine (none_calls hl hb).mono ?_; rintro e w' ⟨rfl, rfl⟩)
  go_ret
  exact ⟨rfl, rfl⟩

/-! ### New -/
theorem new_bad (most : Int) (hm : most < 0 ∨ 4096 < most) (w : World) : Calls Try.prog 9 #[.int .i64 most] w fun e w' => e = .returned (.tuple #[.pointer none, .int .i64 1]) ∧ w = w' := by
  rcases hm with hm | hm
  · go_enter Try.func9, Try.ntmps9
    go_wp2
    go_ret2
    exact ⟨rfl, rfl⟩
  · have h0 : ¬ most < 0 := by omega
    go_enter Try.func9, Try.ntmps9
    go_wp2
    go_ret2
    exact ⟨rfl, rfl⟩
theorem new_calls (most : Int) (h0 : 0 ≤ most) (h1 : most ≤ 4096) (w : World) : Calls Try.prog 9 #[.int .i64 most] w fun e w' => ∃ g, e = .returned (.tuple #[.pointer (some ⟨g, 0, none⟩), .int .i64 0]) ∧ w.heap.size ≤ g ∧
    HL w' w.heap.size g (.slice none 0 0) ⟨[], 1, most⟩ ∧ Below w.heap.size w w' := by
  go_enter Try.func9, Try.ntmps9
  go_wp2
  go_ret2
  exact ⟨w.heap.size, rfl, Nat.le_refl _, ⟨blk_new _ _, Kd.R_nil _ _ _ _ _⟩, (Below.refl _ _).alloc (Nat.le_refl _) _⟩
end Go.Proofs.Ytbjdjbhmafmnbaa
