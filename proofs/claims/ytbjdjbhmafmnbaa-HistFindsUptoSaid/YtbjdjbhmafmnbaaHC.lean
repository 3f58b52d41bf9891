/-
  A history in memory: From, At, Number.
-/
import Derived.Test.YtbjdjbhmafmnbaaHB
namespace Go.Proofs.Ytbjdjbhmafmnbaa
open Go.RowKit Go.Proofs.YtbjdjbhmafmnbaaW.PrintWords Go.Proofs.YtbjdjbhmafmnbaaW.PrintLast Go.Proofs.YtbjdjbhmafmnbaaW.PrintMore Go.Proofs.Ytbjdjbhmafmnbaa.PAll
set_option linter.unusedVariables false
set_option linter.unusedSimpArgs false
attribute [local go_sem] max2_int min2_int max_two min_two max_three min_three max_four min_four

/-! ### From -/
theorem from_bad (most : Int) (hm : most < 0 ∨ 4096 < most) (A0 : Option Addr) (n0 c0 : Nat) (w : World) :
    Calls Try.prog 16 #[.int .i64 most, .slice A0 n0 c0] w fun e w' => e = .returned (.tuple #[.pointer none, .int .i64 1]) ∧ w = w' := by
  go_enter Try.func16, Try.ntmps16
  go_wp2_with (go_at_call 9; refine (new_bad most hm _).mono ?_; rintro e w' ⟨rfl, rfl⟩)
  go_ret2
  exact ⟨rfl, rfl⟩
theorem from_lines (most : Int) (h0 : 0 ≤ most) (h1 : most ≤ 4096) (A0 : Option Addr) (c0 : Nat) (l0 : List S36) (w : World) (hr0 : Kd.C k36 w A0 l0.length l0) (hc0 : l0.length ≤ c0) (hl0 : l0.length ≤ 1000000000000) (hm : mayF l0 ≠ 0) :
    Calls Try.prog 16 #[.int .i64 most, .slice A0 l0.length c0] w fun e w' => e = .returned (.tuple #[.pointer none, .int .i64 (mayF l0)]) ∧ Below w.heap.size w w' := by
  have hm1 : (mayF l0 == 0) = false := by simpa using hm
  have hm2 : (mayF l0 != 0) = true := by simpa using hm
  have Hm := Aside0.mk hm
  have Hr : ∃ r, r = mayF l0 := ⟨_, rfl⟩
  obtain ⟨r, hr⟩ := Hr
  rw [← hr] at hm1 hm2 ⊢
  have HR := Aside0.mk hr
  clear hr hm
  go_enter Try.func16, Try.ntmps16
  go_wp2_with (first
    | (go_at_call 9; refine (new_calls most h0 h1 _).mono ?_; rintro e w2 ⟨g, rfl, hg, hl2, hb2⟩)
    | (go_at_call 11; refine (add_bad hl2 (show (1 : Int) ≠ 0 by decide) A0 c0 l0 (Kd.C_below hr0 hb2) hc0 hl0 Hm.out).mono ?_; rintro e w3 ⟨rfl, hb3⟩; rw [← HR.out]))
  go_ret2
  exact ⟨rfl, below_step hb2 hb3⟩
theorem from_calls (most : Int) (h0 : 0 ≤ most) (h1 : most ≤ 4096) (A0 : Option Addr) (c0 : Nat) (l0 : List S36) (w : World) (hr0 : Kd.C k36 w A0 l0.length l0) (hc0 : l0.length ≤ c0) (hl0 : l0.length ≤ 1000000000000) (hm : mayF l0 = 0) :
    Calls Try.prog 16 #[.int .i64 most, .slice A0 l0.length c0] w fun e w' => ∃ g v, e = .returned (.tuple #[.pointer (some ⟨g, 0, none⟩), .int .i64 0]) ∧ w.heap.size ≤ g ∧ HL w' w.heap.size g v (Hs.add ⟨[], 1, most⟩ l0) ∧ Below w.heap.size w w' := by
  have Hm := Aside0.mk hm
  clear hm
  go_enter Try.func16, Try.ntmps16
  go_wp2_with (first
    | (go_at_call 9; refine (new_calls most h0 h1 _).mono ?_; rintro e w2 ⟨g, rfl, hg, hl2, hb2⟩)
    | (go_at_call 11; refine (add_calls hl2 A0 c0 l0 (Kd.C_below hr0 hb2) hc0 Hm.out (by simpa using hl0) h0 h1 hb2.size hg (show (0 : Int) < 1 by decide) (show (1 : Int) ≤ 1000000000000000 by decide)).mono ?_; rintro e w3 ⟨rfl, v3, hl3, hn3, hf3⟩))
  go_ret2
  refine ⟨g, v3, rfl, hg, hl3, hb2.trans (hf3.below (fun k hk => ?_) hb2.size)⟩
  rcases hk with rfl | hk
  · exact hg
  · simp [Value.ownBlock] at hk

/-! ### At -/
/-- What a line is, as a value. -/
def S36.v (x : S36) : Value := .agg #[.string x.f0, .int .i64 x.f1]
theorem at_calls {w : World} {B g : Nat} {v : Value} {q : Hs} (hl : HL w B g v q) (hq : q.base ≠ 0) (i : Nat) (hi : i < q.lines.length) :
    Calls Try.prog 21 #[.pointer (some ⟨g, 0, none⟩), .int .i64 (i : Int)] w fun e w' => e = .returned (.tuple #[S36.v q.lines[i], .bool true]) ∧ Below w.heap.size w w' := by
  have hl' := hl.below (below_alloc (Below.refl _ _) (.cells #[.string ⟨#[]⟩, .int .i64 0] 36))
  obtain ⟨A, c, rfl, hc, hC⟩ := hl'.slice
  obtain ⟨ad, rfl, hx0, hx1⟩ := at_T36 hC (i : Int) (by omega) (by omega)
  rw [rd36_nat _ _ hi, Int.toNat_natCast] at hx0 hx1
  have h0 := hl'.c0
  generalize q.lines[i] = s at hx0 hx1
  go_enter Try.func21, Try.ntmps21
  go_wp2_with (go_at_call 12; refine (len_calls hl' hq).mono ?_; rintro e w' ⟨rfl, rfl⟩)
  refine bodyPost_ret (results_ct rfl _ _ w.heap.size 36 #[.string s.f0, .int .i64 s.f1] (0, 0) _ rfl (blk_new w _) Try.underlying36 rfl (by kernel_rfl)) rfl ?_
  exact ⟨rfl, below_alloc (Below.refl _ _) _⟩
theorem quiet_w {P : Program} {f : FuncId} {args : Array Value} {w : World} {n : Nat} {v : Value}
    (h : Calls P f args (w.drewN n) fun e w' => e = .returned v ∧ w.drewN n = w') : Calls P f args (w.drewN n) fun e w'' => e = .returned v ∧ ∃ m, w'' = w.drewN m := h.mono fun _ _ ⟨he, hm⟩ => ⟨he, n, hm.symm⟩
theorem HL.drewN {w : World} {B g : Nat} {v : Value} {h : Hs} (hl : HL w B g v h) (n : Nat) : HL (w.drewN n) B g v h := hl.below (pw_below_drewN (Below.refl _ _) n)

theorem at_out {w : World} {B g : Nat} {v : Value} {q : Hs} (hl : HL w B g v q) (hq : q.base ≠ 0) (i : Int) (hi : i < 0 ∨ (q.lines.length : Int) ≤ i) :
    Calls Try.prog 21 #[.pointer (some ⟨g, 0, none⟩), .int .i64 i] w fun e w' => e = .returned (.tuple #[S36.v z36, .bool false]) ∧ Below w.heap.size w w' := by
  have hl' := hl.below (below_alloc (Below.refl _ _) (.cells #[.string ⟨#[]⟩, .int .i64 0] 36))
  by_cases h1 : i < 0
  · go_enter Try.func21, Try.ntmps21
    go_wp2_with (go_at_call 12; refine (len_calls hl' hq).mono ?_; rintro e w' ⟨rfl, rfl⟩)
    refine bodyPost_ret (results_ct rfl _ _ w.heap.size 36 #[.string ⟨#[]⟩, .int .i64 0] (0, 0) _ rfl (blk_new w _) Try.underlying36 rfl (by kernel_rfl)) rfl ?_
    exact ⟨rfl, below_alloc (Below.refl _ _) _⟩
  · have h2 : (q.lines.length : Int) ≤ i := by omega
    go_enter Try.func21, Try.ntmps21
    go_wp2_with (go_at_call 12; refine (len_calls hl' hq).mono ?_; rintro e w' ⟨rfl, rfl⟩)
    refine bodyPost_ret (results_ct rfl _ _ w.heap.size 36 #[.string ⟨#[]⟩, .int .i64 0] (0, 0) _ rfl (blk_new w _) Try.underlying36 rfl (by kernel_rfl)) rfl ?_
    exact ⟨rfl, below_alloc (Below.refl _ _) _⟩

/-! ### Number -/
set_option maxRecDepth 100000 in
set_option maxHeartbeats 1000000 in
theorem number_calls {w : World} {B g : Nat} {v : Value} {q : Hs} (hl : HL w B g v q) (hb0 : 0 < q.base) (hb1 : q.base ≤ 1000000000000000) (i : Nat) (hi : i < q.lines.length) (hn : q.lines.length ≤ 1000000000000) :
    Calls Try.prog 15 #[.pointer (some ⟨g, 0, none⟩), .int .i64 (q.base + (i : Int))] w fun e w' => e = .returned (.tuple #[S36.v q.lines[i], .bool true]) ∧ Below w.heap.size w w' := by
  have hq : q.base ≠ 0 := by omega
  have hl' := hl.below (below_alloc (Below.refl _ _) (.cells #[.string ⟨#[]⟩, .int .i64 0] 36))
  obtain ⟨A, c, rfl, hc, hC⟩ := hl'.slice
  obtain ⟨ad, rfl, hx0, hx1⟩ := at_T36 hC (i : Int) (by omega) (by omega)
  rw [rd36_nat _ _ hi, Int.toNat_natCast] at hx0 hx1
  have h0 := hl'.c0
  have h1 := hl'.c1
  generalize q.lines[i] = s at hx0 hx1
  have e1 : decide (q.base + (i : Int) < q.base) = false := by simp; omega
  have e2 : IntKind.i64.wrap (q.base + (i : Int) - q.base) = (i : Int) := by rw [show q.base + (i : Int) - q.base = (i : Int) by omega]; exact wrap_in (by omega) (by omega)
  have e3 : decide ((q.lines.length : Int) ≤ (i : Int)) = false := by simp; omega
  have e4 : decide (q.lines.length ≤ i) = false := by simp; omega
  go_enter Try.func15, Try.ntmps15
  go_wp2
  go_quiet ((go_at_call 42; exact quiet_w (none_calls (hl'.drewN _) hq)))
  go_wp2
  go_region
  go_wp2
  refine bodyPost_ret (results_ct rfl _ _ w.heap.size 36 #[.string s.f0, .int .i64 s.f1] (0, 0) _ rfl (blk_put (cs := #[.string s.f0, .int .i64 0]) (blk_put (cs := #[.string ⟨#[]⟩, .int .i64 0]) (blk_drewN (blk_new w _) _) 0 _ rfl) 1 _ rfl) Try.underlying36 rfl (by kernel_rfl)) rfl ?_
  exact ⟨rfl, below_set (below_set (pw_below_drewN (below_alloc (Below.refl _ _) _) _) (Nat.le_refl _)) (Nat.le_refl _)⟩
end Go.Proofs.Ytbjdjbhmafmnbaa
