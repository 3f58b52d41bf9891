/-
  A history and a walk that no call made: what each method answers.
-/
import Derived.Test.YtbjdjbhmafmnbaaWW
import Derived.LoopN
namespace Go.Proofs.Ytbjdjbhmafmnbaa
open Go.RowKit Go.Proofs.YtbjdjbhmafmnbaaW.PrintWords Go.Proofs.YtbjdjbhmafmnbaaW.PrintLast Go.Proofs.YtbjdjbhmafmnbaaW.PrintMore Go.Proofs.Ytbjdjbhmafmnbaa.PAll
set_option linter.unusedVariables false
set_option linter.unusedSimpArgs false
attribute [local go_sem] max2_int min2_int max_two min_two max_three min_three max_four min_four
/-- A history that no call made: nil, or nothing but zeros. -/
def Un (w : World) (v : Value) : Prop := v = .pointer none ∨ ∃ g, v = .pointer (some ⟨g, 0, none⟩) ∧ w.heap[g]? = some (.cells #[.slice none 0 0, .int .i64 0, .int .i64 0] 87 (0, 0))
theorem Un.below {w w' : World} {v : Value} (h : Un w v) (hb : Below w.heap.size w w') : Un w' v := h.imp id (fun ⟨g, e, hg⟩ => ⟨g, e, blk_below hg hb⟩)
theorem un_none {w : World} {v : Value} (h : Un w v) : Calls Try.prog 42 #[v] w fun e w' => e = .returned (.bool true) ∧ w = w' := by
  rcases h with rfl | ⟨g, rfl, hg⟩
  · exact none_nil w
  · exact none_zero hg
theorem un_len {w : World} {v : Value} (h : Un w v) : Calls Try.prog 12 #[v] w fun e w' => e = .returned (.int .i64 0) ∧ w = w' := by
  go_enter Try.func12, Try.ntmps12
  go_wp2_with (go_at_call 42; refine (un_none h).mono ?_; rintro e w' ⟨rfl, rfl⟩)
  go_ret
  exact ⟨rfl, rfl⟩
theorem un_base {w : World} {v : Value} (h : Un w v) : Calls Try.prog 13 #[v] w fun e w' => e = .returned (.int .i64 0) ∧ w = w' := by
  go_enter Try.func13, Try.ntmps13
  go_wp2_with (go_at_call 42; refine (un_none h).mono ?_; rintro e w' ⟨rfl, rfl⟩)
  go_ret
  exact ⟨rfl, rfl⟩
theorem un_most {w : World} {v : Value} (h : Un w v) : Calls Try.prog 40 #[v] w fun e w' => e = .returned (.int .i64 0) ∧ w = w' := by
  go_enter Try.func40, Try.ntmps40
  go_wp2_with (go_at_call 42; refine (un_none h).mono ?_; rintro e w' ⟨rfl, rfl⟩)
  go_ret
  exact ⟨rfl, rfl⟩
theorem un_clone {w : World} {v : Value} (h : Un w v) : Calls Try.prog 41 #[v] w fun e w' => e = .returned (.pointer none) ∧ w = w' := by
  go_enter Try.func41, Try.ntmps41
  go_wp2_with (go_at_call 42; refine (un_none h).mono ?_; rintro e w' ⟨rfl, rfl⟩)
  go_ret
  exact ⟨rfl, rfl⟩
theorem un_add {w : World} {v : Value} (h : Un w v) (l : Value) : Calls Try.prog 11 #[v, l] w fun e w' => e = .returned (.int .i64 2) ∧ w = w' := by
  go_enter Try.func11, Try.ntmps11
  go_wp2_with (go_at_call 42; refine (un_none h).mono ?_; rintro e w' ⟨rfl, rfl⟩)
  go_ret
  exact ⟨rfl, rfl⟩
theorem un_stifle {w : World} {v : Value} (h : Un w v) (i : Int) : Calls Try.prog 39 #[v, .int .i64 i] w fun e w' => e = .returned (.int .i64 2) ∧ w = w' := by
  go_enter Try.func39, Try.ntmps39
  go_wp2_with (go_at_call 42; refine (un_none h).mono ?_; rintro e w' ⟨rfl, rfl⟩)
  go_ret
  exact ⟨rfl, rfl⟩
theorem Un.drewN {w : World} {v : Value} (h : Un w v) (n : Nat) : Un (w.drewN n) v := h.below (pw_below_drewN (Below.refl _ _) n)
theorem un_remove {w : World} {v : Value} (h : Un w v) (i : Int) : Calls Try.prog 38 #[v, .int .i64 i] w fun e w' => e = .returned (.tuple #[.agg #[.string ⟨#[]⟩, .int .i64 0], .int .i64 2]) ∧ Below w.heap.size w w' := by
  have h' := h.below (below_alloc (Below.refl _ _) (.cells #[.string ⟨#[]⟩, .int .i64 0] 36))
  go_enter Try.func38, Try.ntmps38
  go_wp2_with (go_at_call 42; go_loud (refine (un_none h').mono ?_; rintro e w' ⟨rfl, rfl⟩))
  refine bodyPost_ret (results_ct rfl _ _ w.heap.size 36 #[.string ⟨#[]⟩, .int .i64 0] (0, 0) _ rfl (blk_new w _) Try.underlying36 rfl (by kernel_rfl)) rfl ?_
  exact ⟨rfl, below_alloc (Below.refl _ _) _⟩
theorem un_number {w : World} {v : Value} (h : Un w v) (i : Int) : Calls Try.prog 15 #[v, .int .i64 i] w fun e w' => e = .returned (.tuple #[.agg #[.string ⟨#[]⟩, .int .i64 0], .bool false]) ∧ Below w.heap.size w w' := by
  have h' := h.below (below_alloc (Below.refl _ _) (.cells #[.string ⟨#[]⟩, .int .i64 0] 36))
  go_enter Try.func15, Try.ntmps15
  go_wp2
  go_quiet ((go_at_call 42; exact quiet_w (un_none (h'.drewN _))))
  go_wp2
  refine bodyPost_ret (results_ct rfl _ _ w.heap.size 36 #[.string ⟨#[]⟩, .int .i64 0] (0, 0) _ rfl (blk_put (cs := #[.string ⟨#[]⟩, .int .i64 0]) (blk_put (cs := #[.string ⟨#[]⟩, .int .i64 0]) (blk_drewN (blk_new w _) _) 0 _ rfl) 1 _ rfl) Try.underlying36 rfl (by kernel_rfl)) rfl ?_
  exact ⟨rfl, below_set (below_set (pw_below_drewN (below_alloc (Below.refl _ _) _) _) (Nat.le_refl _)) (Nat.le_refl _)⟩
theorem un_at {w : World} {v : Value} (h : Un w v) (i : Int) : Calls Try.prog 21 #[v, .int .i64 i] w fun e w' => e = .returned (.tuple #[.agg #[.string ⟨#[]⟩, .int .i64 0], .bool false]) ∧ Below w.heap.size w w' := by
  have h' := h.below (below_alloc (Below.refl _ _) (.cells #[.string ⟨#[]⟩, .int .i64 0] 36))
  by_cases h1 : i < 0
  · go_enter Try.func21, Try.ntmps21
    go_wp2_with (go_at_call 12; refine (un_len h').mono ?_; rintro e w' ⟨rfl, rfl⟩)
    refine bodyPost_ret (results_ct rfl _ _ w.heap.size 36 #[.string ⟨#[]⟩, .int .i64 0] (0, 0) _ rfl (blk_new w _) Try.underlying36 rfl (by kernel_rfl)) rfl ?_
    exact ⟨rfl, below_alloc (Below.refl _ _) _⟩
  · have h2 : 0 ≤ i := by omega
    go_enter Try.func21, Try.ntmps21
    go_wp2_with (go_at_call 12; refine (un_len h').mono ?_; rintro e w' ⟨rfl, rfl⟩)
    refine bodyPost_ret (results_ct rfl _ _ w.heap.size 36 #[.string ⟨#[]⟩, .int .i64 0] (0, 0) _ rfl (blk_new w _) Try.underlying36 rfl (by kernel_rfl)) rfl ?_
    exact ⟨rfl, below_alloc (Below.refl _ _) _⟩
theorem un_replace {w : World} {v : Value} (h : Un w v) (i : Int) (x0 : ByteArray) (x1 : Int) : Calls Try.prog 36 #[v, .int .i64 i, .agg #[.string x0, .int .i64 x1]] w fun e w' => e = .returned (.tuple #[.agg #[.string ⟨#[]⟩, .int .i64 0], .int .i64 2]) ∧ Below w.heap.size w w' := by
  go_enter Try.func36, Try.ntmps36
  go_wp2_with (go_at_call 42; go_loud (refine (un_none (h.below (by repeat (first | exact Below.refl _ _ | apply below_alloc)))).mono ?_; rintro e w' ⟨rfl, rfl⟩))
  have hz : ((w.alloc (.cells #[.string x0, .int .i64 x1] 36)).alloc (.cells #[.string ⟨#[]⟩, .int .i64 0] 36)).heap[w.heap.size + 1]? = some (.cells #[.string ⟨#[]⟩, .int .i64 0] 36 (0, 0)) := by
    have := blk_new (w.alloc (.cells #[.string x0, .int .i64 x1] 36)) (.cells #[.string ⟨#[]⟩, .int .i64 0] 36)
    rwa [World.size_alloc] at this
  refine bodyPost_ret (results_ct rfl _ _ (w.heap.size + 1) 36 #[.string ⟨#[]⟩, .int .i64 0] (0, 0) _ rfl hz Try.underlying36 rfl (by kernel_rfl)) rfl ?_
  exact ⟨rfl, below_alloc (below_alloc (Below.refl _ _) _) _⟩
theorem un_newWalk {w : World} {v : Value} (h : Un w v) : Calls Try.prog 17 #[v] w fun e w' => e = .returned (.tuple #[.pointer none, .int .i64 2]) ∧ Below w.heap.size w w' := by
  go_enter Try.func17, Try.ntmps17
  go_wp2_with (go_at_call 42; go_loud (refine (un_none (h.below (by repeat (first | exact Below.refl _ _ | apply below_alloc)))).mono ?_; rintro e w' ⟨rfl, rfl⟩))
  exact bodyPost_ret (v := .tuple #[.pointer none, .int .i64 2]) (by simp [results, Try.f17, go_sem]) rfl ⟨rfl, Below.refl _ _⟩
theorem un_search {w : World} {v : Value} (h : Un w v) (i : Int) (s : ByteArray) (b c : Bool) : Calls Try.prog 32 #[v, .int .i64 i, .string s, .bool b, .bool c] w fun e w' => e = .returned (.tuple #[.int .i64 0, .int .i64 0, .bool false]) ∧ Below w.heap.size w w' := by
  cases b
  · by_cases hi : i < 0
    · have h1 : ¬ (0 ≤ i) := by omega
      go_enter Try.func32, Try.ntmps32
      go_wp2_with (go_at_call 12; refine (un_len h).mono ?_; rintro e w' ⟨rfl, rfl⟩)
      refine wp_loop_rounds 1 ?_
      simp only [Code.rounds]
      go_wp2
      exact bodyPost_ret (v := .tuple #[.int .i64 0, .int .i64 0, .bool false]) (by simp [results, Try.f32, go_sem]) rfl ⟨rfl, Below.refl _ _⟩
    · have h1 : 0 ≤ i := by omega
      go_enter Try.func32, Try.ntmps32
      go_wp2_with (go_at_call 12; refine (un_len h).mono ?_; rintro e w' ⟨rfl, rfl⟩)
      refine wp_loop_rounds 1 ?_
      simp only [Code.rounds]
      go_wp2
      exact bodyPost_ret (v := .tuple #[.int .i64 0, .int .i64 0, .bool false]) (by simp [results, Try.f32, go_sem]) rfl ⟨rfl, Below.refl _ _⟩
  · by_cases hi : i < -1
    · have h1 : ¬ (0 ≤ i) := by omega
      have h2 : ¬ (-1 ≤ i) := by omega
      go_enter Try.func32, Try.ntmps32
      go_wp2_with (go_at_call 12; refine (un_len h).mono ?_; rintro e w' ⟨rfl, rfl⟩)
      refine wp_loop_rounds 1 ?_
      simp only [Code.rounds]
      go_wp2
      exact bodyPost_ret (v := .tuple #[.int .i64 0, .int .i64 0, .bool false]) (by simp [results, Try.f32, go_sem]) rfl ⟨rfl, Below.refl _ _⟩
    · have h1 : -1 ≤ i := by omega
      go_enter Try.func32, Try.ntmps32
      go_wp2_with (go_at_call 12; refine (un_len h).mono ?_; rintro e w' ⟨rfl, rfl⟩)
      all_goals
        refine wp_loop_rounds 1 ?_
        simp only [Code.rounds]
        go_wp2
        exact bodyPost_ret (v := .tuple #[.int .i64 0, .int .i64 0, .bool false]) (by simp [results, Try.f32, go_sem]) rfl ⟨rfl, Below.refl _ _⟩
/-! ### All, of nothing -/
theorem un_all {w : World} {v : Value} (h : Un w v) : Calls Try.prog 14 #[v] w fun e w' => ∃ Bx, e = .returned (.func (.func 61) #[] #[.pointer (some ⟨Bx, 0, none⟩)]) ∧ w.heap.size ≤ Bx ∧ w'.heap[Bx]? = some (.cells #[.slice none 0 0] 28 (0, 0)) ∧ Below w.heap.size w w' := by
  go_enter Try.func14, Try.ntmps14
  go_wp2_with (first
    | (go_at_call 42; refine (un_none h).mono ?_; rintro e w' ⟨rfl, rfl⟩)
    | go_in)
  go_ret
  exact ⟨w.heap.size, rfl, Nat.le_refl _, blk_new _ _, below_alloc (Below.refl _ _) _⟩
/-- A walk that no call made. -/
def Uw (w : World) (v : Value) : Prop := v = .pointer none ∨ ∃ g, v = .pointer (some ⟨g, 0, none⟩) ∧ w.heap[g]? = some (.cells #[.slice none 0 0, .slice none 0 0, .int .i64 0] 96 (0, 0))
theorem Uw.below {w w' : World} {v : Value} (h : Uw w v) (hb : Below w.heap.size w w') : Uw w' v := h.imp id (fun ⟨g, e, hg⟩ => ⟨g, e, blk_below hg hb⟩)
theorem Uw.drewN {w : World} {v : Value} (h : Uw w v) (n : Nat) : Uw (w.drewN n) v := h.below (pw_below_drewN (Below.refl _ _) n)
theorem uw_none {w : World} {v : Value} (h : Uw w v) : Calls Try.prog 48 #[v] w fun e w' => e = .returned (.bool true) ∧ w = w' := by
  rcases h with rfl | ⟨g, rfl, hg⟩
  · exact wnone_nil w
  · exact wnone_zero hg
theorem uw_place {w : World} {v : Value} (h : Uw w v) : Calls Try.prog 18 #[v] w fun e w' => e = .returned (.int .i64 0) ∧ w = w' := by
  go_enter Try.func18, Try.ntmps18
  go_wp2_with (go_at_call 48; refine (uw_none h).mono ?_; rintro e w' ⟨rfl, rfl⟩)
  go_ret
  exact ⟨rfl, rfl⟩
theorem uw_to {w : World} {v : Value} (h : Uw w v) (i : Int) (s : ByteArray) : Calls Try.prog 19 #[v, .int .i64 i, .string s] w fun e w' => e = .returned (.tuple #[.string ⟨#[]⟩, .int .i64 2]) ∧ Below w.heap.size w w' := by
  go_enter Try.func19, Try.ntmps19
  go_wp2_with (go_at_call 48; refine (uw_none h).mono ?_; rintro e w' ⟨rfl, rfl⟩)
  exact bodyPost_ret (v := .tuple #[.string ⟨#[]⟩, .int .i64 2]) (by simp [results, Try.f19, go_sem]) rfl ⟨rfl, Below.refl _ _⟩
theorem uw_here {w : World} {v : Value} (h : Uw w v) (i : Int) : Calls Try.prog 25 #[v, .int .i64 i] w fun e w' => e = .returned (.tuple #[.string ⟨#[]⟩, .bool false]) ∧ Below w.heap.size w w' := by
  go_enter Try.func25, Try.ntmps25
  go_wp2_with (go_at_call 48; refine (uw_none h).mono ?_; rintro e w' ⟨rfl, rfl⟩)
  exact bodyPost_ret (v := .tuple #[.string ⟨#[]⟩, .bool false]) (by simp [results, Try.f25, go_sem]) rfl ⟨rfl, Below.refl _ _⟩
theorem uw_changed {w : World} {v : Value} (h : Uw w v) : Calls Try.prog 20 #[v] w fun e w' => ∃ B1 B2, e = .returned (.func (.func 49) #[] #[.pointer (some ⟨B1, 0, none⟩), .pointer (some ⟨B2, 0, none⟩)]) ∧ w.heap.size ≤ B1 ∧ w.heap.size ≤ B2 ∧
    w'.heap[B1]? = some (.cells #[.slice none 0 0] 102 (0, 0)) ∧ w'.heap[B2]? = some (.cells #[.slice none 0 0] 62 (0, 0)) ∧ Below w.heap.size w w' := by
  have h' := h.below (below_alloc (below_alloc (Below.refl _ _) (.cells #[.slice none 0 0] 102)) (.cells #[.slice none 0 0] 62))
  go_enter Try.func20, Try.ntmps20
  go_wp2_with (go_at_call 48; go_loud (refine (uw_none h').mono ?_; rintro e w' ⟨rfl, rfl⟩))
  go_ret
  exact ⟨w.heap.size, w.heap.size + 1, rfl, Nat.le_refl _, by omega, blk_alloc (blk_new w _) _, by have := blk_new (w.alloc (.cells #[.slice none 0 0] 102)) (.cells #[.slice none 0 0] 62); rwa [World.size_alloc] at this, below_alloc (below_alloc (Below.refl _ _) _) _⟩
end Go.Proofs.Ytbjdjbhmafmnbaa
