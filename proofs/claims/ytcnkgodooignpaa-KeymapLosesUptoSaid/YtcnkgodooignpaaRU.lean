/-
  Timeout; a piece of a script.
-/
import Derived.Test.YtcnkgodooignpaaRT
namespace Go.Proofs.Ytcnkgodooignpaa
open Go.RowKit Go.WideShapes Go.Proofs.YtcnkgodooignpaaW.PrintWords Go.Proofs.YtcnkgodooignpaaW.PrintLast Go.Proofs.YtcnkgodooignpaaW.PrintMore Go.Proofs.Ytcnkgodooignpaa.PAll
set_option linter.unusedVariables false
set_option linter.unusedSimpArgs false
attribute [local go_sem] max2_int min2_int max_two min_two max_three min_three max_four min_four
theorem timeout_calls {w : World} {own : Nat → Prop} {g gm : Nat} {F : Key} {c : Nat} {mt : Bool} {s : ByteArray} (h : RD w own g gm F c mt s) (hs : s.size ≤ 1000000000) :
    Calls Try.prog 15 #[.pointer (some ⟨g, 0, none⟩)] w (HitsPost (Times F) w own g gm F c mt s) := by
  have H := Aside0.mk h
  have HT := Aside0.mk (times_calls h hs)
  clear h
  go_enter Try.func15, Try.ntmps15
  go_wp2_with (first
    | (go_at_call 39; go_loud (refine (rnone_calls H.out).mono ?_; rintro e w' ⟨rfl, rfl⟩))
    | (go_at_call 41; go_loud (refine HT.out.mono ?_; rintro e w2 ⟨v2, hs2, s2, rfl, hp2, hv2, hr2, hf2⟩)))
  go_ret
  exact ⟨v2, hs2, s2, rfl, hp2, hv2, hr2, hf2⟩
structure S40 where
  f0 : List Int
  f1 : Bool
  f2 : Bool
def z40 : S40 := ⟨[], false, false⟩
def k40 : Kd S40 := Kd.iso (Kd.pair (Kd.slice 5 (Kd.int .u8)) (Kd.pair Kd.bool Kd.bool)) (fun x : S40 => (x.f0, x.f1, x.f2))
theorem k40_open {w : World} {x : S40} {cs : List Value} (h : k40.K w x cs) : ∃ a c, cs = [.slice a x.f0.length c, .bool x.f1, .bool x.f2] ∧ x.f0.length ≤ c ∧ Kd.C (Kd.int .u8) w a x.f0.length x.f0 := by
  obtain ⟨_, _, rfl, ⟨a, c, rfl, hc, hC⟩, ⟨_, _, rfl, rfl, rfl⟩⟩ := h
  exact ⟨a, c, rfl, hc, hC⟩
theorem k40_mk {w : World} {x : S40} {a : Option Addr} {c : Nat} (hc : x.f0.length ≤ c) (hC : Kd.C (Kd.int .u8) w a x.f0.length x.f0) : k40.K w x [.slice a x.f0.length c, .bool x.f1, .bool x.f2] :=
  ⟨[.slice a x.f0.length c], [.bool x.f1, .bool x.f2], rfl, ⟨a, c, rfl, hc, hC⟩, ⟨[.bool x.f1], [.bool x.f2], rfl, rfl, rfl⟩⟩
theorem at_T40 {w : World} {A : Option Addr} {xs : List S40} (h : Kd.C k40 w A xs.length xs) (i : Nat) (h1 : i < xs.length) : ∃ ad a c, A = some ad ∧ w.cell? (ad.add (i * 3)) = some (.slice a xs[i].f0.length c) ∧ w.cell? ⟨(ad.add (i * 3)).block, (ad.add (i * 3)).off + 1, none⟩ = some (.bool xs[i].f1) ∧ w.cell? ⟨(ad.add (i * 3)).block, (ad.add (i * 3)).off + 2, none⟩ = some (.bool xs[i].f2) ∧ xs[i].f0.length ≤ c ∧ Kd.C (Kd.int .u8) w a xs[i].f0.length xs[i].f0 := by
  obtain ⟨ad, cs, e, _, hK, hc0⟩ := Kd.C_get h z40 (i : Int) (by omega) (by omega)
  have hg : xs.getD ((i : Int).toNat) z40 = xs[i] := by simp [List.getD, List.getElem?_eq_getElem h1]
  rw [hg] at hK
  rw [Int.toNat_natCast] at hc0
  have hc : ∀ j u, cs[j]? = some u → w.cell? (ad.add (i * 3 + j)) = some u := hc0
  obtain ⟨a, c, rfl, hle, hC⟩ := k40_open hK
  exact ⟨ad, a, c, e, hc 0 _ rfl, by rw [← add_field _ _ 1 (by omega)]; exact hc 1 _ rfl, by rw [← add_field _ _ 2 (by omega)]; exact hc 2 _ rfl, hle, hC⟩
/-- How much there is in pieces. -/
def piecesM (l : List S40) : Nat := (l.map fun x => x.f0.length + 1).sum
theorem piecesM_len (l : List S40) : l.length ≤ piecesM l := by
  induction l with
  | nil => simp
  | cons x l ih =>
    have e : piecesM (x :: l) = x.f0.length + 1 + piecesM l := by simp [piecesM]
    simp only [List.length_cons]
    omega
/-- The bytes of the first pieces. -/
def bytesUp (l : List S40) (k : Nat) : Nat := ((l.take k).map fun x => x.f0.length).sum
theorem bytesUp_le : ∀ (l : List S40) (k : Nat), bytesUp l k ≤ piecesM l
  | [], k => by simp [bytesUp, piecesM]
  | x :: l, 0 => by simp [bytesUp]
  | x :: l, k + 1 => by
    have e : piecesM (x :: l) = x.f0.length + 1 + piecesM l := by simp [piecesM]
    have e2 : bytesUp (x :: l) (k + 1) = x.f0.length + bytesUp l k := by simp [bytesUp]
    have := bytesUp_le l k
    omega
theorem bytesUp_succ (l : List S40) (k : Nat) (h : k < l.length) : bytesUp l (k + 1) = bytesUp l k + l[k].f0.length := by
  unfold bytesUp
  rw [List.take_add_one, List.getElem?_eq_getElem h, Option.toList_some, List.map_append, List.sum_append]
  simp
end Go.Proofs.Ytcnkgodooignpaa
