/-
  What comes in: slices of anything, as the walks want them, and how long they are where the bulk is small.
-/
import Derived.Test.YtcnkgodooignpaaRows
import Derived.Test.YtcnkgodooignpaaPAllx0
import Derived.ProofKit
import Derived.OpenShut
import Derived.ShutString
import Derived.ChangeOld
import Derived.Below
import Derived.JoinedCond
namespace Go.Proofs.Ytcnkgodooignpaa
open Go.ChangeShapes Go.WideShapes Go.ChangeAt Go.RowKit
open Go.ChangeMaps (open_string shut_string)
open Go.Proofs.YtcnkgodooignpaaW.PrintWords Go.Proofs.Ytcnkgodooignpaa.PAll
set_option linter.unusedVariables false
set_option maxRecDepth 100000

namespace Bulk
theorem bound {H : Type} {l : List (DataW H)} (hk : Rows.uptoSmall H l = true) : Rows.uptoBulkAll l ≤ 1048576 := of_decide_eq_true hk
theorem slice_elems {H : Type} (elems spare : List (DataW H)) : Rows.uptoBulkAll elems + 1 ≤ Rows.uptoBulk (.slice elems spare) := by
  simp only [Rows.uptoBulk]
  omega
theorem map_le {α H : Type} (m : α → Nat) : ∀ (els : List (DataW H × List MemPlace)) (ls : List α), els.length = ls.length → (∀ i (h : i < els.length) (h2 : i < ls.length), m ls[i] ≤ Rows.uptoBulk els[i].1) →
    (ls.map m).sum ≤ Rows.uptoBulkAll (els.map (·.1))
  | [], [], _, _ => by simp
  | [], _ :: _, h, _ => by simp at h
  | _ :: _, [], h, _ => by simp at h
  | e :: els, l :: ls, h, hb => by
    have h0 := hb 0 (by simp) (by simp)
    have h1 := map_le m els ls (by simpa using h) (fun i a b => by
      have := hb (i + 1) (by simpa using a) (by simpa using b)
      simpa using this)
    simp only [List.getElem_cons_zero] at h0
    simp only [List.map_cons, List.sum_cons, Rows.uptoBulkAll] at h1 ⊢
    omega
end Bulk

/-- Values of type t read as d; m: how much there is; p: what is known of the numbers. -/
structure ArgK {α : Type} (t : Nat) (d : Kd α) (m : α → Nat) (p : α → Prop) : Prop where
  out : ∀ {H : Type} {enc : TypeId × Value → H} {W : World} {sp : Nat → Bool} {hd : Bool} {fuel : Nat} {cs : List Value} {x : DataW H × List MemPlace}, DataW.trod enc Try.prog W 0 sp hd fuel t cs = some x → ∃ y, d.K W y cs ∧ m y ≤ Rows.uptoBulk x.1 ∧ p y
theorem ArgK.int {t : Nat} {k : IntKind} (ht : Try.prog.underlying t = some (.int k)) : ArgK t (Kd.int k) (fun _ => 1) (fun n => (Lit.int k n).wf = true) := by
  refine ⟨?_⟩
  intro H enc W sp hd fuel cs x h
  obtain ⟨n, rfl, rfl, hw⟩ := DataW.trod_int ht h
  exact ⟨n, rfl, by simp [Rows.uptoBulk], hw⟩
theorem ArgK.string {t : Nat} (ht : Try.prog.underlying t = some .string) : ArgK t Kd.string (fun s => s.size + 1) (fun _ => True) := by
  refine ⟨?_⟩
  intro H enc W sp hd fuel cs x h
  obtain ⟨s, rfl, rfl, hw⟩ := DataW.trod_string ht h
  refine ⟨s, rfl, ?_, trivial⟩
  have : s.data.toList.length = s.size := by rw [Array.length_toList]; rfl
  simp only [Rows.uptoBulk]
  omega
/-- A slice that came in. -/
structure SlIn {α : Type} (d : Kd α) (p : α → Prop) (w : World) (a : Option Addr) (cap : Nat) (l : List α) : Prop where
  reads : Kd.C d w a l.length l
  cap_le : l.length ≤ cap
  wf : ∀ y ∈ l, p y
theorem ArgK.slice_cs {α : Type} (z : α) {t e : Nat} {d : Kd α} {m : α → Nat} {p : α → Prop} (ht : Try.prog.underlying t = some (.slice e)) (hc : Try.prog.cellsOf e = d.sz) (he : ArgK e d m p)
    {H : Type} {enc : TypeId × Value → H} {W : World} {sp : Nat → Bool} {hd : Bool} {fuel : Nat} {cs : List Value} {x : DataW H × List MemPlace} (h : DataW.trod enc Try.prog W 0 sp hd fuel t cs = some x) :
    ∃ a c l, cs = [.slice a l.length c] ∧ SlIn d p W a c l ∧ (l.map m).sum + 1 ≤ Rows.uptoBulk x.1 := by
  rcases DataW.trod_slice ht h with ⟨rfl, rfl⟩ | ⟨x, len, cap, elems, rest, n, _, rfl, rfl, hb, hl, hm, hlen, hel, hsp, hns⟩
  · exact ⟨none, 0, [], rfl, ⟨Kd.C_nil _ _, Nat.le_refl _, fun n hn => by cases hn⟩, by simp [Rows.uptoBulk]⟩
  · have each : ∀ i (hi : i < len), ∃ y cs', d.K W y cs' ∧ cs'.length = d.sz ∧ (∀ j u, cs'[j]? = some u → W.cell? (x.add (i * d.sz + j)) = some u) ∧ m y ≤ Rows.uptoBulk (elems[i]'(by omega)).1 ∧ p y := by
      intro i hi
      have he2 := hel i hi
      rw [List.getElem?_eq_getElem (by omega), Option.bind_eq_some_iff] at he2
      obtain ⟨cs', hcs', hy⟩ := he2
      obtain ⟨y, hK, hmy, hpy⟩ := he.out hy
      rw [hc] at hcs'
      have hs := World.cells?_some hcs'
      refine ⟨y, cs', hK, d.K_len hK, fun j u hu => ?_, hmy, hpy⟩
      have hj : j < d.sz := by
        have := (List.getElem?_eq_some_iff.1 hu).1
        have := d.K_len hK
        omega
      have := hs.2.2 j hj
      rw [add_add] at this
      exact this.trans hu
    have pick : ∃ f : Nat → α, ∀ i (hi : i < len), ∃ cs', d.K W (f i) cs' ∧ cs'.length = d.sz ∧ (∀ j u, cs'[j]? = some u → W.cell? (x.add (i * d.sz + j)) = some u) ∧ m (f i) ≤ Rows.uptoBulk (elems[i]'(by omega)).1 ∧ p (f i) := by
      refine ⟨fun i => if hi : i < len then Classical.choose (each i hi) else z, fun i hi => ?_⟩
      simp only [dif_pos hi]
      exact Classical.choose_spec (each i hi)
    obtain ⟨f, hf2⟩ := pick
    have hlL : ((List.range len).map f).length = len := by simp
    refine ⟨some x, cap, (List.range len).map f, by rw [hlL], ⟨?_, by rw [hlL]; exact hl, ?_⟩, ?_⟩
    · rw [hlL]
      refine ⟨hlL, by unfold maxLen at hm; omega, fun hn => ⟨x, rfl, fun j q hq => ?_⟩⟩
      have hj : j < len := by
        have := (List.getElem?_eq_some_iff.1 hq).1
        omega
      obtain ⟨cs', hK, hl', hcell, _, _⟩ := hf2 j hj
      have hq2 : q = f j := by
        rw [List.getElem?_map, List.getElem?_range hj] at hq
        simpa using hq.symm
      subst hq2
      exact ⟨cs', hl', hK, hcell⟩
    · intro y hy
      obtain ⟨i, hi, rfl⟩ := List.mem_map.1 hy
      rw [List.mem_range] at hi
      obtain ⟨_, _, _, _, _, hp⟩ := hf2 i hi
      exact hp
    · have h1 := Bulk.map_le m elems ((List.range len).map f) (by rw [hlL, hlen]) (fun i h h2 => by
        obtain ⟨_, _, _, _, hbk, _⟩ := hf2 i (by omega)
        simpa using hbk)
      exact Nat.le_trans (Nat.add_le_add_right h1 1) (Bulk.slice_elems (elems.map (·.1)) (rest.map (·.1)))
theorem ArgK.slice {α : Type} (z : α) {t e : Nat} {d : Kd α} {m : α → Nat} {p : α → Prop} (ht : Try.prog.underlying t = some (.slice e)) (hc : Try.prog.cellsOf e = d.sz) (he : ArgK e d m p) : ArgK t (Kd.slice e d) (fun l => (l.map m).sum + 1) (fun l => ∀ y ∈ l, p y) := by
  refine ⟨?_⟩
  intro H enc W sp hd fuel cs x h
  obtain ⟨a, c, l, rfl, R, hb⟩ := ArgK.slice_cs z ht hc he h
  exact ⟨l, ⟨a, c, rfl, R.cap_le, R.reads⟩, hb, R.wf⟩
/-- A slice that is an argument. -/
theorem ArgK.arg {α : Type} (z : α) {t e : Nat} {d : Kd α} {m : α → Nat} {p : α → Prop} (ht : Try.prog.underlying t = some (.slice e)) (hc : Try.prog.cellsOf e = d.sz) (he : ArgK e d m p)
    {H : Type} {enc : TypeId × Value → H} {W : World} {base : Nat} {sp : Nat → Bool} {hd : Bool} {v : Value} {dd : DataW H} {pl : List MemPlace}
    (hv : Value.okWide Try.prog W .any base t v) (h : DataW.Trod enc Try.prog W 0 sp hd t v dd pl) :
    ∃ a cap l, v = .slice a l.length cap ∧ SlIn d p W a cap l ∧ (l.map m).sum + 1 ≤ Rows.uptoBulk dd := by
  obtain ⟨a0, len0, cap0, rfl⟩ := okWide_slice ht hv
  obtain ⟨fuel, hf⟩ := h
  obtain ⟨a, c, l, hcs, R, hb⟩ := ArgK.slice_cs z ht hc he hf
  simp [Value.cells] at hcs
  obtain ⟨rfl, rfl, rfl⟩ := hcs
  exact ⟨_, _, l, rfl, R, hb⟩

/-! ### the kinds that come in here -/
theorem cells84 : Try.prog.cellsOf 84 = 4 := by kernel_rfl
theorem cells44 : Try.prog.cellsOf 44 = 3 := by kernel_rfl
theorem cells5 : Try.prog.cellsOf 5 = 1 := by kernel_rfl
theorem cells9 : Try.prog.cellsOf 9 = 1 := by kernel_rfl
theorem arg44 : ArgK 44 k44 (fun x => x.f1.size + x.f2.size + 3) (fun x => (Lit.int .i64 x.f0).wf = true) := by
  refine ⟨?_⟩
  intro H enc W sp hd fuel cs x h
  obtain ⟨xs, n, _, rfl, hl, hlen, hf⟩ := DataW.trod_struct Try.underlying44 h
  rw [cells44] at hl
  have c9 := cells9
  have cK : Try.prog.cellsOf 3 = 1 := by kernel_rfl
  match cs, hl with
  | [a0, a1, a2], _ =>
    match xs, hlen with
    | [y0, y1, y2], _ =>
      have h0 := hf 0 _ rfl
      have h1 := hf 1 _ rfl
      have h2 := hf 2 _ rfl
      clear hf h
      simp [c9, cK] at h0 h1 h2
      obtain ⟨d, e0, hy0, w0⟩ := DataW.trod_int (t := 3) Try.underlying3 h0
      obtain ⟨s, e1, hy1, _⟩ := DataW.trod_string (t := 9) Try.underlying9 h1
      obtain ⟨t, e2, hy2, _⟩ := DataW.trod_string (t := 9) Try.underlying9 h2
      simp only [List.cons.injEq, and_true] at e0 e1 e2
      subst e0 e1 e2 hy0 hy1 hy2
      refine ⟨⟨d, s, t⟩, k44_mk _ _, ?_, w0⟩
      have g1 : s.data.toList.length = s.size := by rw [Array.length_toList]; rfl
      have g2 : t.data.toList.length = t.size := by rw [Array.length_toList]; rfl
      simp only [List.map_cons, List.map_nil, Rows.uptoBulk, Rows.uptoBulkAll]
      omega
theorem arg84 : ArgK 84 k84 (fun x => x.f0.size + 1) (fun _ => True) := by
  refine ⟨?_⟩
  intro H enc W sp hd fuel cs x h
  obtain ⟨xs, n, _, rfl, hl, hlen, hf⟩ := DataW.trod_struct Try.underlying84 h
  rw [cells84] at hl
  have c9 := cells9
  match cs, hl with
  | [a0, a1, a2, a3], _ =>
    match xs, hlen with
    | [y0, y1], _ =>
      have h0 := hf 0 _ rfl
      have h1 := hf 1 _ rfl
      clear hf h
      simp [c9, cells44] at h0 h1
      obtain ⟨s, e0, hy0, _⟩ := DataW.trod_string (t := 9) Try.underlying9 h0
      obtain ⟨y, hy, hb, _⟩ := arg44.out h1
      have ey := k44_open hy
      simp only [List.cons.injEq, and_true] at e0 ey
      obtain ⟨g1, g2, g3⟩ := ey
      subst e0 hy0 g1 g2 g3
      refine ⟨⟨s, y⟩, k84_mk _ _, ?_, trivial⟩
      have g1 : s.data.toList.length = s.size := by rw [Array.length_toList]; rfl
      simp only [List.map_cons, List.map_nil, Rows.uptoBulk, Rows.uptoBulkAll]
      omega
/-- Sequences that come in: how much there is. -/
def boundsM (l : List S84) : Nat := (l.map fun x => x.f0.size + 1).sum
theorem boundsM_len (l : List S84) : l.length ≤ boundsM l := by
  induction l with
  | nil => simp
  | cons x l ih =>
    have e : boundsM (x :: l) = x.f0.size + 1 + boundsM l := by simp [boundsM]
    simp only [List.length_cons]
    omega
theorem boundsM_str (l : List S84) : ∀ x ∈ l, x.f0.size ≤ boundsM l := by
  induction l with
  | nil => intro x hx; cases hx
  | cons y l ih =>
    intro x hx
    have e : boundsM (y :: l) = y.f0.size + 1 + boundsM l := by simp [boundsM]
    rcases List.mem_cons.1 hx with rfl | hx
    · omega
    · have := ih x hx
      omega
theorem bounds_arg {H : Type} {enc : TypeId × Value → H} {W : World} {base : Nat} {sp : Nat → Bool} {hd : Bool} {v : Value} {d : DataW H} {p : List MemPlace}
    (hv : Value.okWide Try.prog W .any base 22 v) (h : DataW.Trod enc Try.prog W 0 sp hd 22 v d p) :
    ∃ a cap l, v = .slice a l.length cap ∧ SlIn k84 (fun _ => True) W a cap l ∧ boundsM l + 1 ≤ Rows.uptoBulk d :=
  ArgK.arg z84 Try.underlying22 cells84 arg84 hv h
theorem bytes_arg {H : Type} {enc : TypeId × Value → H} {W : World} {base : Nat} {sp : Nat → Bool} {hd : Bool} {v : Value} {d : DataW H} {p : List MemPlace}
    (hv : Value.okWide Try.prog W .any base 23 v) (h : DataW.Trod enc Try.prog W 0 sp hd 23 v d p) :
    ∃ a cap l, v = .slice a l.length cap ∧ SlIn (Kd.int .u8) (fun n => (Lit.int .u8 n).wf = true) W a cap l ∧ (l.map fun _ => 1).sum + 1 ≤ Rows.uptoBulk d :=
  ArgK.arg 0 Try.underlying23 cells5 (ArgK.int Try.underlying5) hv h
theorem ones (l : List Int) : (l.map fun _ => 1).sum = l.length := by
  induction l with
  | nil => rfl
  | cons x l ih => simp only [List.map_cons, List.sum_cons, List.length_cons, ih]; omega
end Go.Proofs.Ytcnkgodooignpaa
