/-
  Search.
-/
import Derived.Test.YtbjdjbhmafmnbaaFA
namespace Go.Proofs.Ytbjdjbhmafmnbaa
open Go.RowKit Go.Proofs.YtbjdjbhmafmnbaaW.PrintWords Go.Proofs.YtbjdjbhmafmnbaaW.PrintLast Go.Proofs.YtbjdjbhmafmnbaaW.PrintMore Go.Proofs.Ytbjdjbhmafmnbaa.PAll
set_option linter.unusedVariables false
set_option linter.unusedSimpArgs false
attribute [local go_sem] max2_int min2_int max_two min_two max_three min_three max_four min_four
/-- What a search forward may tell. -/
def SearchF (lines : List S36) (from_ : Int) (t : ByteArray) (begins : Bool) (r : Value) : Prop :=
  (∃ (i : Nat) (h : i < lines.length), r = .tuple #[.int .i64 (i : Int), .int .i64 (foundF lines[i].f0 t false begins), .bool true] ∧ 0 ≤ foundF lines[i].f0 t false begins ∧ from_ ≤ (i : Int) ∧ ∀ k (hk : k < lines.length), from_ ≤ (k : Int) → k < i → foundF lines[k].f0 t false begins < 0) ∨
  (r = .tuple #[.int .i64 0, .int .i64 0, .bool false] ∧ ∀ k (hk : k < lines.length), from_ ≤ (k : Int) → foundF lines[k].f0 t false begins < 0)
set_option maxHeartbeats 1000000 in
theorem search_forth {w : World} {B g : Nat} {v : Value} {q : Hs} (hl : HL w B g v q) (hq : q.base ≠ 0) (hn : q.lines.length ≤ 1000000000) {m : Int} (hm : w.cell? ⟨0, 0, none⟩ = some (.int .i64 m)) (hsz : ∀ x ∈ q.lines, x.f0.size < 4294967281) (i : Int) (t : ByteArray) (c : Bool) :
    Calls Try.prog 32 #[.pointer (some ⟨g, 0, none⟩), .int .i64 i, .string t, .bool false, .bool c] w fun e w' => (∃ r, e = .returned r ∧ SearchF q.lines i t c r) ∧ w = w' := by
  have h0 := hl.c0
  obtain ⟨A, ca, rfl, hc, hC⟩ := hl.slice
  obtain ⟨n0, hn0⟩ : ∃ n0 : Nat, (n0 : Int) = max i 0 := ⟨(max i 0).toNat, by omega⟩
  have hmx : (if i < 0 then (0 : Int) else i) = (n0 : Int) := by split <;> omega
  have hmx2 : (if 0 < i then i else (0 : Int)) = (n0 : Int) := by split <;> omega
  have hmx3 : (if 0 ≤ i then i else (0 : Int)) = (n0 : Int) := by split <;> omega
  have HN := Aside0.mk hn0
  have HSZ := Aside0.mk hsz
  clear hn0 hsz
  go_enter Try.func32, Try.ntmps32
  go_wp2_with (go_at_call 12; refine (len_calls hl hq).mono ?_; rintro e w' ⟨rfl, rfl⟩)
  go_loopw [15] (fun x wr => ∃ j : Nat, x = .int .i64 (j : Int) ∧ wr = w ∧ n0 ≤ j ∧ Aside0 (∀ k (hk : k < q.lines.length), i ≤ (k : Int) → k < j → foundF q.lines[k].f0 t false c < 0)) (fun x wr => q.lines.length - (intOf x).toNat)
  case atStart => exact ⟨n0, rfl, rfl, Nat.le_refl _, ⟨fun k hk h1 h2 => by have := HN.out; omega⟩⟩
  case round =>
    obtain ⟨j, rfl, rfl, hj, HK⟩ := hrel
    by_cases hlt : j < q.lines.length
    · obtain ⟨ad, rfl, hx0, hx1⟩ := at_T36 hC (j : Int) (by omega) (by omega)
      rw [rd36_nat _ _ hlt, Int.toNat_natCast] at hx0 hx1
      have FC := Aside0.mk (found_calls hm q.lines[j].f0 t (HSZ.out _ (List.getElem_mem hlt)) false c)
      have HS1 := Aside0.mk (fun (h : 0 ≤ foundF q.lines[j].f0 t false c) => (Or.inl ⟨j, hlt, rfl, h, by have := HN.out; omega, HK.out⟩ : SearchF q.lines i t c (.tuple #[.int .i64 (j : Int), .int .i64 (foundF q.lines[j].f0 t false c), .bool true])))
      have HS2 := Aside0.mk (fun (h : foundF q.lines[j].f0 t false c < 0) => (fun k hk h1 h2 => by
        by_cases e : k = j
        · subst e; exact h
        · exact HK.out k hk h1 (by omega) : ∀ k (hk : k < q.lines.length), i ≤ (k : Int) → k < j + 1 → foundF q.lines[k].f0 t false c < 0))
      have hjw : (q.lines.length : Int) ≤ 1000000000 := by omega
      generalize foundF q.lines[j].f0 t false c = a at FC HS1 HS2
      generalize q.lines[j] = sx at hx0 hx1 FC
      by_cases ha : 0 ≤ a
      · go_wp2_with (go_at_call 53; refine FC.out.mono ?_; rintro e w' ⟨rfl, rfl⟩)
        exact bodyPost_ret (v := .tuple #[.int .i64 (j : Int), .int .i64 a, .bool true]) (by simp [results, Try.f32, go_sem]) rfl ⟨⟨_, rfl, HS1.out ha⟩, rfl⟩
      · go_wp2_with (go_at_call 53; refine FC.out.mono ?_; rintro e w' ⟨rfl, rfl⟩)
        go_roundw
        case rel => exact ⟨j + 1, by simp, by first | rfl | trivial, by omega, ⟨HS2.out (by omega)⟩⟩
        case measure => simp [intOf]; omega
    · go_wp2
      refine bodyPost_ret (v := .tuple #[.int .i64 0, .int .i64 0, .bool false]) (by simp [results, Try.f32, go_sem]) rfl ⟨⟨_, rfl, .inr ⟨rfl, fun k hk h1 => HK.out k hk h1 (by omega)⟩⟩, rfl⟩
/-- What a search back may tell. -/
def SearchB (lines : List S36) (from_ : Int) (t : ByteArray) (begins : Bool) (r : Value) : Prop :=
  (∃ (i : Nat) (h : i < lines.length), r = .tuple #[.int .i64 (i : Int), .int .i64 (foundF lines[i].f0 t true begins), .bool true] ∧ 0 ≤ foundF lines[i].f0 t true begins ∧ (i : Int) ≤ from_ ∧ ∀ k (hk : k < lines.length), (k : Int) ≤ from_ → i < k → foundF lines[k].f0 t true begins < 0) ∨
  (r = .tuple #[.int .i64 0, .int .i64 0, .bool false] ∧ ∀ k (hk : k < lines.length), (k : Int) ≤ from_ → foundF lines[k].f0 t true begins < 0)
set_option maxHeartbeats 1000000 in
theorem search_back {w : World} {B g : Nat} {v : Value} {q : Hs} (hl : HL w B g v q) (hq : q.base ≠ 0) (hn : q.lines.length ≤ 1000000000) {m : Int} (hm : w.cell? ⟨0, 0, none⟩ = some (.int .i64 m)) (hsz : ∀ x ∈ q.lines, x.f0.size < 4294967281) (i : Int) (t : ByteArray) (c : Bool) :
    Calls Try.prog 32 #[.pointer (some ⟨g, 0, none⟩), .int .i64 i, .string t, .bool true, .bool c] w fun e w' => (∃ r, e = .returned r ∧ SearchB q.lines i t c r) ∧ w = w' := by
  have h0 := hl.c0
  obtain ⟨A, ca, rfl, hc, hC⟩ := hl.slice
  obtain ⟨n0, hn0⟩ : ∃ n0 : Int, n0 = min i ((q.lines.length : Int) - 1) := ⟨_, rfl⟩
  have hmx : (if i < (q.lines.length : Int) - 1 then i else (q.lines.length : Int) - 1) = n0 := by split <;> omega
  have hmx2 : (if (q.lines.length : Int) - 1 < i then (q.lines.length : Int) - 1 else i) = n0 := by split <;> omega
  have hmx3 : (if i ≤ (q.lines.length : Int) - 1 then i else (q.lines.length : Int) - 1) = n0 := by split <;> omega
  have HW := wrap_in (x := (q.lines.length : Int) - 1) (by omega) (by omega)
  have HN := Aside0.mk hn0
  have HSZ := Aside0.mk hsz
  clear hn0 hsz
  go_enter Try.func32, Try.ntmps32
  go_wp2_with (go_at_call 12; refine (len_calls hl hq).mono ?_; rintro e w' ⟨rfl, rfl⟩)
  go_loopw [15] (fun x wr => ∃ j : Int, x = .int .i64 j ∧ wr = w ∧ j ≤ i ∧ j < (q.lines.length : Int) ∧ Aside0 (∀ k (hk : k < q.lines.length), (k : Int) ≤ i → j < (k : Int) → foundF q.lines[k].f0 t true c < 0)) (fun x wr => (intOf x + 1).toNat)
  case atStart => exact ⟨n0, rfl, rfl, by have := HN.out; omega, by have := HN.out; omega, ⟨fun k hk h1 h2 => by have := HN.out; omega⟩⟩
  case round =>
    obtain ⟨j, rfl, rfl, hj, hjn, HK⟩ := hrel
    clear hmx hmx2 hmx3 HW
    by_cases hlt : 0 ≤ j
    · obtain ⟨k0, rfl⟩ := Int.eq_ofNat_of_zero_le hlt
      have hk0 : k0 < q.lines.length := by omega
      obtain ⟨ad, rfl, hx0, hx1⟩ := at_T36 hC (k0 : Int) (by omega) (by omega)
      rw [rd36_nat _ _ hk0, Int.toNat_natCast] at hx0 hx1
      have FC := Aside0.mk (found_calls hm q.lines[k0].f0 t (HSZ.out _ (List.getElem_mem hk0)) true c)
      have HS1 := Aside0.mk (fun (h : 0 ≤ foundF q.lines[k0].f0 t true c) => (Or.inl ⟨k0, hk0, rfl, h, hj, fun k hk h1 h2 => HK.out k hk h1 (by omega)⟩ : SearchB q.lines i t c (.tuple #[.int .i64 (k0 : Int), .int .i64 (foundF q.lines[k0].f0 t true c), .bool true])))
      have HS2 := Aside0.mk (fun (h : foundF q.lines[k0].f0 t true c < 0) => (fun k hk h1 h2 => by
        by_cases e : k = k0
        · subst e; exact h
        · exact HK.out k hk h1 (by omega) : ∀ k (hk : k < q.lines.length), (k : Int) ≤ i → (k0 : Int) - 1 < (k : Int) → foundF q.lines[k].f0 t true c < 0))
      generalize foundF q.lines[k0].f0 t true c = a at FC HS1 HS2
      generalize q.lines[k0] = sx at hx0 hx1 FC
      by_cases ha : 0 ≤ a
      · go_wp2_with (go_at_call 53; refine FC.out.mono ?_; rintro e w' ⟨rfl, rfl⟩)
        exact bodyPost_ret (v := .tuple #[.int .i64 (k0 : Int), .int .i64 a, .bool true]) (by simp [results, Try.f32, go_sem]) rfl ⟨⟨_, rfl, HS1.out ha⟩, rfl⟩
      · go_wp2_with (go_at_call 53; refine FC.out.mono ?_; rintro e w' ⟨rfl, rfl⟩)
        go_roundw
        case rel => exact ⟨(k0 : Int) - 1, by first | rfl | (simp; omega), by first | rfl | trivial, by omega, by omega, ⟨HS2.out (by omega)⟩⟩
        case measure => simp [intOf]; omega
    · go_wp2
      refine bodyPost_ret (v := .tuple #[.int .i64 0, .int .i64 0, .bool false]) (by simp [results, Try.f32, go_sem]) rfl ⟨⟨_, rfl, .inr ⟨rfl, fun k hk h1 => HK.out k hk h1 (by omega)⟩⟩, rfl⟩
end Go.Proofs.Ytbjdjbhmafmnbaa
