/-
  mapped: both keymaps of a list of sequences.
-/
import Derived.Test.YtcnkgodooignpaaRN
namespace Go.Proofs.Ytcnkgodooignpaa
open Go.RowKit Go.WideShapes Go.Proofs.YtcnkgodooignpaaW.PrintWords Go.Proofs.YtcnkgodooignpaaW.PrintLast Go.Proofs.YtcnkgodooignpaaW.PrintMore Go.Proofs.Ytcnkgodooignpaa.PAll
set_option linter.unusedVariables false
set_option linter.unusedSimpArgs false
attribute [local go_sem] max2_int min2_int max_two min_two max_three min_three max_four min_four
def bdOf (x : S84) : Bd := ⟨x.f1.f0, x.f1.f1, x.f1.f2⟩
def mapF (xs : List S84) : Key × Nat := xs.foldl (fun p x => (bindF p.1 p.2 x.f0 (bdOf x), bindC p.1 p.2 x.f0 (bdOf x))) (fun _ => none, 0)
def mapL (xs : List S84) : List S84 := xs.foldl (fun L x => bindL L x.f0 (bdOf x)) []
theorem mapF_snoc (xs : List S84) (x : S84) : mapF (xs ++ [x]) = (bindF (mapF xs).1 (mapF xs).2 x.f0 (bdOf x), bindC (mapF xs).1 (mapF xs).2 x.f0 (bdOf x)) := by
  unfold mapF
  rw [List.foldl_append]
  rfl
theorem mapL_snoc (xs : List S84) (x : S84) : mapL (xs ++ [x]) = bindL (mapL xs) x.f0 (bdOf x) := by
  unfold mapL
  rw [List.foldl_append]
  rfl
theorem bindC_le (F : Key) (c : Nat) (s : ByteArray) (x : Bd) : bindC F c s x ≤ c + 1 := by
  unfold bindC cntUp
  split
  · omega
  · split
    · omega
    · split <;> omega
theorem bindL_le (L : List S84) (s : ByteArray) (x : Bd) : (bindL L s x).length ≤ L.length + 1 := by
  unfold bindL
  split
  · omega
  · simp only [List.length_append, List.length_take, List.length_drop]
    have := findN_le L s
    split <;> split <;> simp <;> omega
theorem mapF_le (xs : List S84) (k : Nat) : (mapF (xs.take k)).2 ≤ k := by
  induction k with
  | zero => exact Nat.le_refl _
  | succ k ih =>
    rcases Nat.lt_or_ge k xs.length with h | h
    · rw [List.take_add_one, List.getElem?_eq_getElem h, Option.toList_some, mapF_snoc]
      have := bindC_le (mapF (xs.take k)).1 (mapF (xs.take k)).2 xs[k].f0 (bdOf xs[k])
      show bindC _ _ _ _ ≤ _
      omega
    · rw [List.take_of_length_le (by omega)]
      rw [List.take_of_length_le (by omega)] at ih
      omega
theorem mapL_le (xs : List S84) (k : Nat) : (mapL (xs.take k)).length ≤ k := by
  induction k with
  | zero => exact Nat.le_refl _
  | succ k ih =>
    rcases Nat.lt_or_ge k xs.length with h | h
    · rw [List.take_add_one, List.getElem?_eq_getElem h, Option.toList_some, mapL_snoc]
      have := bindL_le (mapL (xs.take k)) xs[k].f0 (bdOf xs[k])
      omega
    · rw [List.take_of_length_le (by omega)]
      rw [List.take_of_length_le (by omega)] at ih
      omega
/-- Both keymaps, made since w. -/
structure MapSt (w wr : World) (g gr : Nat) (own : Nat → Prop) (v : Value) (p : Key × Nat) (L : List S84) : Prop where
  km : KM wr own g p.1 p.2
  rm : RM wr w.heap.size gr v L
  olo : ∀ k, own k → w.heap.size ≤ k
  glo : w.heap.size ≤ gr
  ngr : ¬ own gr
  nv : ∀ k, some k = v.ownBlock → ¬ own k
  below : Below w.heap.size w wr
theorem MapSt.alloc {w wr : World} {g gr : Nat} {own : Nat → Prop} {v : Value} {p : Key × Nat} {L : List S84} (h : MapSt w wr g gr own v p L) (o : Obj) : MapSt w (wr.alloc o) g gr own v p L :=
  have hb := below_alloc (Below.refl wr.heap.size wr) o
  ⟨h.km.below hb, h.rm.below hb, h.olo, h.glo, h.ngr, h.nv, below_step h.below hb⟩
theorem MapSt.bind {w wr w' : World} {g gr : Nat} {own : Nat → Prop} {v : Value} {p : Key × Nat} {L : List S84} {s : ByteArray} {x : Bd} {e : Ending} (h : MapSt w wr g gr own v p L) (hp : BindPost wr own g p.1 p.2 s x e w') :
    ∃ own', MapSt w w' g gr own' v (bindF p.1 p.2 s x, bindC p.1 p.2 s x) L := by
  obtain ⟨_, own', hk, ho, hf⟩ := hp
  have hvlt := R_blk_lt h.rm.row
  have hgl := blk_lt h.rm.box
  have hsz := h.below.size
  refine ⟨own', hk, h.rm.fr hf h.ngr h.nv, fun k hk => ?_, h.glo, fun hg => ?_, fun k hk hg => ?_, h.below.trans (hf.below h.olo hsz)⟩
  · rcases ho k hk with h1 | h1
    · exact h.olo k h1
    · omega
  · rcases ho _ hg with h1 | h1
    · exact h.ngr h1
    · omega
  · rcases ho _ hg with h1 | h1
    · exact h.nv k hk h1
    · have := hvlt k hk
      omega
theorem MapSt.rbind {w wr w' : World} {g gr : Nat} {own : Nat → Prop} {v : Value} {p : Key × Nat} {L : List S84} {s : ByteArray} {x : Bd} {e : Ending} (h : MapSt w wr g gr own v p L) (hp : RBindPost wr w.heap.size gr v L s x e w') :
    ∃ v', MapSt w w' g gr own v' p (bindL L s x) := by
  obtain ⟨_, v', hk, ho, hf⟩ := hp
  have hsz := h.below.size
  have hol := h.km.olt
  refine ⟨v', h.km.fr hf (fun k hk' e => ?_), hk, h.olo, h.glo, h.ngr, fun k hk hg => ?_, h.below.trans (hf.below (fun k e => ?_) hsz)⟩
  · subst e
    exact h.ngr hk'
  · rcases ho k hk with h1 | h1
    · exact h.nv k h1 hg
    · have := hol k hg
      omega
  · subst e
    exact h.glo
set_option maxRecDepth 100000 in
set_option maxHeartbeats 2000000 in
theorem mapped_calls {w : World} {xs : List S84} {A : Option Addr} {cp : Nat} (hC : Kd.C k84 w A xs.length xs) (hn : xs.length ≤ 1000000000) (hs : ∀ x ∈ xs, x.f0.size ≤ 1000000000000) :
    Calls Try.prog 8 #[.slice A xs.length cp] w fun e w' => ∃ g gr own v, e = .returned (.tuple #[.pointer (some ⟨g, 0, none⟩), .pointer (some ⟨gr, 0, none⟩)]) ∧ MapSt w w' g gr own v (mapF xs) (mapL xs) := by
  have HC := Aside0.mk hC
  have HS := Aside0.mk hs
  clear hC hs
  go_enter Try.func8, Try.ntmps8
  go_wp2_with (go_at_call 29; go_loud (refine (new_calls _).mono ?_; rintro e w1 ⟨g, own, rfl, hg, hK, ho, hb⟩))
  have hal := below_alloc (Below.refl w1.heap.size w1) (.cells #[.slice none 0 0] 79)
  have ST0 : Aside0 (MapSt w (w1.alloc (.cells #[.slice none 0 0] 79)) g w1.heap.size own (.slice none 0 0) (mapF (xs.take 0)) (mapL (xs.take 0))) :=
    ⟨hK.below hal, ⟨blk_new _ _, Kd.R_nil _ _ _ _ _⟩, ho, hb.size, fun h => Nat.lt_irrefl _ (hK.olt _ h), fun k hk => by simp [Value.ownBlock] at hk, below_step hb hal⟩
  clear hK ho hg hb hal
  go_loopw [16] (fun i wr => ∃ (k : Nat) (own' : Nat → Prop) (v : Value), k ≤ xs.length ∧ i = .int .i64 (k : Int) ∧ Aside0 (MapSt w wr g w1.heap.size own' v (mapF (xs.take k)) (mapL (xs.take k)))) (fun i wr => xs.length - (intOf i).toNat)
  case atStart => exact ⟨0, own, _, Nat.zero_le _, rfl, ST0⟩
  case round =>
    obtain ⟨k, own', v, hk, rfl, ST⟩ := hrel
    by_cases hlt : k < xs.length
    · obtain ⟨ad, rfl, hx0, hx1, hx2, hx3⟩ := at_T84 (Kd.C_below HC.out ST.out.below) (k : Int) (by omega) (by omega)
      rw [rd84_nat _ _ hlt, Int.toNat_natCast] at hx0 hx1 hx2 hx3
      have hF := mapF_snoc (xs.take k) xs[k]
      have hL := mapL_snoc (xs.take k) xs[k]
      have hT : xs.take k ++ [xs[k]] = xs.take (k + 1) := by rw [List.take_add_one, List.getElem?_eq_getElem hlt, Option.toList_some]
      rw [hT] at hF hL
      have HF := Aside0.mk hF
      have HL := Aside0.mk hL
      have HXS := Aside0.mk (HS.out xs[k] (List.getElem_mem hlt))
      have HC1 := Aside0.mk (mapF_le xs k)
      have HL1 := Aside0.mk (mapL_le xs k)
      clear hF hL hT
      generalize xs[k] = x at hx0 hx1 hx2 hx3 HF HL HXS
      generalize hp : mapF (xs.take k) = p at ST HF HC1
      generalize hq : mapL (xs.take k) = L at ST HL HL1
      clear hp hq
      have hnw := Aside0.mk (blk_new wr (.cells #[.string x.f0, .int .i64 x.f1.f0, .string x.f1.f1, .string x.f1.f2] 84))
      have e0 : (wr.alloc (.cells #[.string x.f0, .int .i64 x.f1.f0, .string x.f1.f1, .string x.f1.f2] 84)).cell? ⟨wr.heap.size, 0, none⟩ = some (.string x.f0) := (blk_cell hnw.out 0).trans rfl
      have e1 : (wr.alloc (.cells #[.string x.f0, .int .i64 x.f1.f0, .string x.f1.f1, .string x.f1.f2] 84)).cell? ⟨wr.heap.size, 1, none⟩ = some (.int .i64 x.f1.f0) := (blk_cell hnw.out 1).trans rfl
      have e2 : (wr.alloc (.cells #[.string x.f0, .int .i64 x.f1.f0, .string x.f1.f1, .string x.f1.f2] 84)).cell? ⟨wr.heap.size, 2, none⟩ = some (.string x.f1.f1) := (blk_cell hnw.out 2).trans rfl
      have e3 : (wr.alloc (.cells #[.string x.f0, .int .i64 x.f1.f0, .string x.f1.f1, .string x.f1.f2] 84)).cell? ⟨wr.heap.size, 3, none⟩ = some (.string x.f1.f2) := (blk_cell hnw.out 3).trans rfl
      have ST1 := Aside0.mk (ST.out.alloc (.cells #[.string x.f0, .int .i64 x.f1.f0, .string x.f1.f1, .string x.f1.f2] 84))
      have HKL := Aside0.mk (ST.out.km.olt)
      clear ST
      go_wp2_with (first
        | (go_at_call 18; go_loud (refine (bind_calls ST1.out.km (by have := HC1.out; omega) x.f0 HXS.out (bdOf x)).mono ?_; rintro e w2 hp2; obtain rfl := hp2.1; obtain ⟨own2, hst2⟩ := ST1.out.bind hp2; have ST2 := Aside0.mk hst2; have hnw2 : Aside0 (w2.heap[wr.heap.size]? = some (.cells #[.string x.f0, .int .i64 x.f1.f0, .string x.f1.f1, .string x.f1.f2] 84 (0, 0))) := ⟨by obtain ⟨_, _, _, _, hf⟩ := hp2; exact hf.blk hnw.out (fun h => Nat.lt_irrefl _ (HKL.out _ h))⟩; have q0 : w2.cell? ⟨wr.heap.size, 0, none⟩ = some (.string x.f0) := (blk_cell hnw2.out 0).trans rfl; have q1 : w2.cell? ⟨wr.heap.size, 1, none⟩ = some (.int .i64 x.f1.f0) := (blk_cell hnw2.out 1).trans rfl; have q2 : w2.cell? ⟨wr.heap.size, 2, none⟩ = some (.string x.f1.f1) := (blk_cell hnw2.out 2).trans rfl; have q3 : w2.cell? ⟨wr.heap.size, 3, none⟩ = some (.string x.f1.f2) := (blk_cell hnw2.out 3).trans rfl; clear hp2 hst2))
        | (go_at_call 31; go_loud (refine (rbind_calls ST2.out.rm ST2.out.below.size (by have := HL1.out; omega) x.f0 HXS.out (bdOf x)).mono ?_; rintro e w3 hp3; obtain rfl := hp3.1; obtain ⟨v3, hst3⟩ := ST2.out.rbind hp3; have ST3 := Aside0.mk hst3; clear hp3 hst3)))
      go_roundw
      case rel => exact ⟨k + 1, own2, v3, hlt, by simp, ⟨by rw [HF.out, HL.out]; exact ST3.out⟩⟩
      case measure => simp [intOf]; omega
    · obtain rfl : k = xs.length := by omega
      rw [List.take_length] at ST
      clear hlt
      go_wp2
      go_ret2
      exact ⟨g, w1.heap.size, own', v, rfl, ST.out⟩
end Go.Proofs.Ytcnkgodooignpaa
