/-
  What comes in: slices of slices of runes.
-/
import Derived.Test.YtpebdkchdgaeoaaArgs
namespace Go.Proofs.Ytpebdkchdgaeoaa
open Go.ChangeShapes Go.WideShapes Go.ChangeAt Go.RowKit
open Go.Proofs.YtpebdkchdgaeoaaW.PrintWords
set_option linter.unusedVariables false

theorem runes_cs {H : Type} {enc : TypeId × Value → H} {W : World} {sp : Nat → Bool} {hd : Bool} {fuel : Nat} {cs : List Value} {x : DataW H × List MemPlace}
    (hf : DataW.trod enc Try.prog W 0 sp hd fuel 22 cs = some x) :
    ∃ a cap l, cs = [.slice a l.length cap] ∧ RunesIn W a l.length cap l ∧ l.length + 1 ≤ Rows.uptoBulk x.1 := by
  rcases open_ints Try.underlying22 Try.underlying21 (by kernel_rfl) hf with ⟨hcs, hx⟩ | ⟨a, l, c, zs, hcs, _, hl, hm, hz, hx, hcell, hwz⟩
  · subst hcs hx
    exact ⟨none, 0, [], rfl, ⟨Kd.C_nil _ _, rfl, Nat.le_refl _, fun n hn => by cases hn⟩, by simp [Rows.uptoBulk]⟩
  · subst hcs hx
    have hzl : l ≤ zs.length := by rw [hz]; split <;> omega
    have ht : (zs.take l).length = l := by rw [List.length_take]; omega
    refine ⟨some a, c, zs.take l, by rw [ht], ⟨?_, rfl, by rw [ht]; exact hl, fun n hn => hwz n (List.mem_of_mem_take hn)⟩, ?_⟩
    · rw [ht]
      refine ⟨ht, by unfold maxLen at hm; omega, fun hn => ⟨a, rfl, fun j q hq => ?_⟩⟩
      have hj : j < l := by
        have := (List.getElem?_eq_some_iff.1 hq).1
        omega
      refine ⟨[.int .i32 q], rfl, rfl, fun i u hu => ?_⟩
      have hjz : j < zs.length := by omega
      have hq2 : zs.getD j 0 = q := by
        rw [List.getElem?_take, if_pos hj] at hq
        simp [List.getD, hq]
      match i, hu with
      | 0, hu =>
        simp at hu
        subst hu
        have := hcell j hjz
        rw [hq2] at this
        simpa [Kd.int, Kd.scalar] using this
      | i + 1, hu => simp at hu
    · have := Bulk.slice_le (lits (H := H) .i32 (zs.take l)) (lits .i32 (zs.drop l))
      have e : (lits (H := H) .i32 (zs.take l)).length = (zs.take l).length := by simp [lits]
      simp only
      omega

/-- How much there is in texts. -/
def totL (l : List (List Int)) : Nat := (l.map fun w => w.length + 1).sum

/-- A slice of texts that came in. -/
structure TextsIn (w : World) (a : Option Addr) (cap : Nat) (l : List (List Int)) : Prop where
  reads : Kd.C (Kd.slice 21 (Kd.int .i32)) w a l.length l
  cap_le : l.length ≤ cap
  wf : ∀ t ∈ l, ∀ n ∈ t, (Lit.int .i32 n).wf = true

theorem bulk_map {H : Type} : ∀ (els : List (DataW H × List MemPlace)) (ls : List (List Int)), els.length = ls.length → (∀ i (h : i < els.length) (h2 : i < ls.length), ls[i].length + 1 ≤ Rows.uptoBulk els[i].1) →
    totL ls ≤ Rows.uptoBulkAll (els.map (·.1))
  | [], [], _, _ => by simp [totL]
  | [], _ :: _, h, _ => by simp at h
  | _ :: _, [], h, _ => by simp at h
  | e :: els, l :: ls, h, hb => by
    have h0 := hb 0 (by simp) (by simp)
    have h1 := bulk_map els ls (by simpa using h) (fun i a b => by
      have := hb (i + 1) (by simpa using a) (by simpa using b)
      simpa using this)
    simp only [List.getElem_cons_zero] at h0
    simp only [totL, List.map_cons, List.sum_cons, Rows.uptoBulkAll] at h1 ⊢
    omega

theorem texts_arg {H : Type} {enc : TypeId × Value → H} {W : World} {base : Nat} {sp : Nat → Bool} {hd : Bool} {v : Value} {d : DataW H} {p : List MemPlace}
    (hv : Value.okWide Try.prog W .any base 30 v) (h : DataW.Trod enc Try.prog W 0 sp hd 30 v d p) :
    ∃ a cap l, v = .slice a l.length cap ∧ TextsIn W a cap l ∧ totL l + 1 ≤ Rows.uptoBulk d := by
  obtain ⟨a0, len0, cap0, rfl⟩ := okWide_slice Try.underlying30 hv
  obtain ⟨fuel, hf⟩ := h
  rcases DataW.trod_slice Try.underlying30 hf with ⟨hcs, hx⟩ | ⟨x, len, cap, elems, rest, n, _, hcs, hx, hb, hl, hm, hlen, hel, hsp, hns⟩
  · simp [Value.cells] at hcs
    obtain ⟨rfl, rfl, rfl⟩ := hcs
    obtain ⟨rfl, rfl⟩ := Prod.mk.inj hx
    exact ⟨none, 0, [], rfl, ⟨Kd.C_nil _ _, Nat.le_refl _, fun n hn => by cases hn⟩, by simp [Rows.uptoBulk, totL]⟩
  · simp [Value.cells] at hcs
    obtain ⟨rfl, rfl, rfl⟩ := hcs
    obtain ⟨rfl, rfl⟩ := Prod.mk.inj hx
    have hc1 : Try.prog.cellsOf 22 = 1 := by kernel_rfl
    have each : ∀ i (hi : i < len0), ∃ a c l, W.cell? (x.add i) = some (.slice a l.length c) ∧ RunesIn W a l.length c l ∧ l.length + 1 ≤ Rows.uptoBulk (elems[i]'(by omega)).1 := by
      intro i hi
      have he := hel i hi
      rw [hc1, Nat.mul_one, List.getElem?_eq_getElem (by omega), Option.bind_eq_some_iff] at he
      obtain ⟨cs', hcs', hy⟩ := he
      obtain ⟨a, c, l, rfl, R, hbk⟩ := runes_cs hy
      exact ⟨a, c, l, cell_of_cells?_one hcs', R, hbk⟩
    have pick : ∃ f : Nat → List Int, ∀ i (hi : i < len0), ∃ a c, W.cell? (x.add i) = some (.slice a (f i).length c) ∧ RunesIn W a (f i).length c (f i) ∧ (f i).length + 1 ≤ Rows.uptoBulk (elems[i]'(by omega)).1 := by
      refine ⟨fun i => if hi : i < len0 then Classical.choose (Classical.choose_spec (Classical.choose_spec (each i hi))) else [], fun i hi => ?_⟩
      simp only [dif_pos hi]
      exact ⟨_, _, Classical.choose_spec (Classical.choose_spec (Classical.choose_spec (each i hi)))⟩
    obtain ⟨f, hf2⟩ := pick
    have hlL : ((List.range len0).map f).length = len0 := by simp
    refine ⟨some x, cap0, (List.range len0).map f, by rw [hlL], ⟨?_, by rw [hlL]; exact hl, ?_⟩, ?_⟩
    · rw [hlL]
      refine ⟨hlL, by unfold maxLen at hm; omega, fun hn => ⟨x, rfl, fun j q hq => ?_⟩⟩
      have hj : j < len0 := by
        have := (List.getElem?_eq_some_iff.1 hq).1
        omega
      obtain ⟨a, c, hcell, R, _⟩ := hf2 j hj
      have hq2 : q = f j := by
        rw [List.getElem?_map, List.getElem?_range hj] at hq
        simpa using hq.symm
      subst hq2
      refine ⟨[.slice a (f j).length c], rfl, ⟨a, c, rfl, R.cap_le, R.reads⟩, fun i u hu => ?_⟩
      match i, hu with
      | 0, hu =>
        simp at hu
        subst hu
        simpa [Kd.slice] using hcell
      | i + 1, hu => simp at hu
    · intro t ht n hn
      obtain ⟨i, hi, rfl⟩ := List.mem_map.1 ht
      rw [List.mem_range] at hi
      obtain ⟨a, c, _, R, _⟩ := hf2 i hi
      exact R.wf n hn
    · have h1 := bulk_map elems ((List.range len0).map f) (by rw [hlL, hlen]) (fun i h h2 => by
        obtain ⟨a, c, _, _, hbk⟩ := hf2 i (by omega)
        simpa using hbk)
      have := Bulk.slice_elems (elems.map (·.1)) (rest.map (·.1))
      omega
end Go.Proofs.Ytpebdkchdgaeoaa
