/-
  shwords.free: whether the runes from a place to another are all unquoted (their states all nought).
-/
import Derived.Test.YtpebdkchdgaeoaaGivenA
namespace Go.Proofs.Ytpebdkchdgaeoaa
open Go.RowKit Go.Proofs.YtpebdkchdgaeoaaW.PrintWords
set_option linter.unusedVariables false
set_option linter.unusedSimpArgs false

/-- A row of ints that is read: what is at each place. -/
def IntsAt (w : World) (A : Option Addr) (n : Nat) (xs : List Int) : Prop := xs.length = n ∧ (0 < n → ∃ ad, A = some ad ∧ ∀ j, j < n → w.cell? (ad.add j) = some (.int .i64 (xs.getD j 0)))

/-- The index of the first that is not nought; -1: none. -/
def firstNot : List Int → Nat → Int
  | [], _ => -1
  | x :: l, i => if x = 0 then firstNot l (i + 1) else (i : Int)

theorem firstNot_step (xs : List Int) (k : Nat) (h : k < xs.length) : firstNot (xs.drop k) k = if xs.getD k 0 = 0 then firstNot (xs.drop (k + 1)) (k + 1) else (k : Int) := by
  rw [List.drop_eq_getElem_cons h]
  simp [firstNot, List.getD, List.getElem?_eq_getElem h]
theorem firstNot_end (xs : List Int) : firstNot (xs.drop xs.length) xs.length = -1 := by simp [firstNot]

theorem free1_any (x : Int) (w : World) : Calls Try.prog 51 #[.int .i64 x] w fun e w' => e = .returned (.bool (x != 0)) ∧ w' = w := by
  go_enter Try.func51, Try.ntmps51
  go_wp2
  go_ret
  exact ⟨rfl, rfl⟩

set_option maxHeartbeats 2000000 in
theorem indexFunc_any (A : Option Addr) (c : Nat) (xs : List Int) (w : World) (hr : IntsAt w A xs.length xs) (hs : xs.length ≤ 1000000000000) :
    Calls Try.prog 56 #[.slice A xs.length c, .func (.func 51) #[] #[]] w fun e w' => e = .returned (.int .i64 (firstNot xs 0)) ∧ w' = w := by
  go_enter Try.func56, Try.ntmps56
  go_wp2
  go_loop [5, 8] (fun _ i => ∃ k : Nat, k ≤ xs.length ∧ i = .int .i64 k ∧ Hid (firstNot (xs.drop k) k = firstNot xs 0)) (fun _ i => xs.length - (intOf i).toNat)
  case atStart => exact ⟨0, Nat.zero_le _, rfl, rfl⟩
  case round =>
    obtain ⟨k, hk, rfl, HF⟩ := hrel
    by_cases hlt : k < xs.length
    · obtain ⟨ad, rfl, hc⟩ := hr.2 (by omega)
      have hck := hc k hlt
      generalize hx : xs.getD k 0 = x at hck
      have HX := Lib.hid hx
      clear hx hc
      by_cases h0 : x = 0
      · subst h0
        go_wp2_with (go_at_call 51; refine (free1_any _ _).mono ?_; rintro e w' ⟨rfl, rfl⟩)
        go_round
        case rel => exact ⟨k + 1, by omega, by go_num, by have := firstNot_step xs k hlt; rw [HX.out, if_pos rfl] at this; exact this.symm.trans HF.out⟩
        case measure => simp [intOf]; omega
      · have hb : (x != 0) = true := by simpa using h0
        have H0 := Lib.hid h0
        clear h0
        go_wp2_with (go_at_call 51; refine (free1_any _ _).mono ?_; rintro e w' ⟨rfl, rfl⟩)
        go_ret
        exact ⟨by rw [← HF.out, firstNot_step xs k hlt, HX.out, if_neg H0.out]; rfl, rfl⟩
    · obtain rfl : k = xs.length := by omega
      go_wp2
      go_ret
      exact ⟨by rw [← HF.out, firstNot_end]; rfl, rfl⟩

def allNought (xs : List Int) : Bool := xs.all fun x => x == 0
theorem firstNot_neg : ∀ (xs : List Int) (i : Nat), decide (0 ≤ firstNot xs i) = !allNought xs
  | [], i => rfl
  | x :: l, i => by
    unfold firstNot
    by_cases h : x = 0
    · rw [if_pos h, firstNot_neg l (i + 1)]; simp [allNought, h]
    · rw [if_neg h]; simp [allNought, h]

theorem containsFunc_any (A : Option Addr) (c : Nat) (xs : List Int) (w : World) (hr : IntsAt w A xs.length xs) (hs : xs.length ≤ 1000000000000) :
    Calls Try.prog 50 #[.slice A xs.length c, .func (.func 51) #[] #[]] w fun e w' => e = .returned (.bool (!allNought xs)) ∧ w' = w := by
  have h := firstNot_neg xs 0
  have c1 := indexFunc_any A c xs w hr hs
  generalize firstNot xs 0 = z at h c1
  have H := Lib.hid h
  clear h
  go_enter Try.func50, Try.ntmps50
  go_wp2_with (go_at_call 56; refine c1.mono ?_; rintro e w' ⟨rfl, rfl⟩)
  go_ret
  exact ⟨by rw [← H.out]; rfl, rfl⟩

theorem addr_add_add (a : Addr) (i j : Nat) : (a.add i).add j = a.add (i + j) := by
  unfold Addr.add
  by_cases hi : i = 0 <;> by_cases hj : j = 0 <;> simp [hi, hj, Nat.add_assoc]

theorem IntsAt.cut {w : World} {A : Option Addr} {xs : List Int} (h : IntsAt w A xs.length xs) {a b c : Nat} (hab : a ≤ b) (hb : b ≤ xs.length) (hc : xs.length ≤ c) :
    IntsAt w (if c = a then A else A.map (·.add a)) (b - a) ((xs.drop a).take (b - a)) := by
  refine ⟨by rw [List.length_take, List.length_drop]; omega, fun hn => ?_⟩
  obtain ⟨ad, rfl, hcell⟩ := h.2 (by omega)
  rw [if_neg (by omega)]
  refine ⟨ad.add a, rfl, fun j hj => ?_⟩
  rw [addr_add_add, hcell _ (by omega)]
  simp [List.getD, List.getElem?_take, List.getElem?_drop, hj]

theorem containsFunc_n (A : Option Addr) (n c : Nat) (xs : List Int) (w : World) (hr : IntsAt w A n xs) (hs : n ≤ 1000000000000) :
    Calls Try.prog 50 #[.slice A n c, .func (.func 51) #[] #[]] w fun e w' => e = .returned (.bool (!allNought xs)) ∧ w' = w := by
  obtain rfl := hr.1
  exact containsFunc_any A c xs w hr hs

set_option maxHeartbeats 2000000 in
theorem free_any (A : Option Addr) (c : Nat) (xs : List Int) (a b : Int) (w : World) (hr : IntsAt w A xs.length xs) (hc : xs.length ≤ c) (h0 : 0 ≤ a) (hab : a ≤ b) (hb : b ≤ xs.length) (hs : xs.length ≤ 1000000000000) :
    Calls Try.prog 46 #[.slice A xs.length c, .int .i64 a, .int .i64 b] w fun e w' => e = .returned (.bool (allNought ((xs.drop a.toNat).take (b.toNat - a.toNat)))) ∧ w' = w := by
  obtain ⟨a, rfl⟩ := Int.eq_ofNat_of_zero_le h0
  obtain ⟨b, rfl⟩ := Int.eq_ofNat_of_zero_le (show 0 ≤ b by omega)
  simp only [Int.toNat_natCast]
  have hcut := hr.cut (show a ≤ b by omega) (show b ≤ xs.length by omega) hc
  generalize (xs.drop a).take (b - a) = ys at hcut
  by_cases hca : c = a
  · rw [if_pos hca] at hcut
    have c1 := fun cc => containsFunc_n A (b - a) cc ys w hcut (by omega)
    subst hca
    go_enter Try.func46, Try.ntmps46
    go_wp2_with (go_at_call 50; refine (c1 _).mono ?_; rintro e w' ⟨rfl, rfl⟩)
    go_ret
    exact ⟨by simp, rfl⟩
  · rw [if_neg hca] at hcut
    have c1 := fun cc => containsFunc_n (A.map (·.add a)) (b - a) cc ys w hcut (by omega)
    have HC := Lib.hid hca
    have hcb : (c == a) = false := by simpa using hca
    go_enter Try.func46, Try.ntmps46
    go_wp2_with (go_at_call 50; refine (c1 _).mono ?_; rintro e w' ⟨rfl, rfl⟩)
    go_goals
    go_ret
    exact ⟨by simp, rfl⟩
end Go.Proofs.Ytpebdkchdgaeoaa
