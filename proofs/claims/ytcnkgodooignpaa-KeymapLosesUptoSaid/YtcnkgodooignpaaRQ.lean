/-
  hits; Put, whichever way; what stays apart.
-/
import Derived.Test.YtcnkgodooignpaaRP
namespace Go.Proofs.Ytcnkgodooignpaa
open Go.RowKit Go.WideShapes Go.Proofs.YtcnkgodooignpaaW.PrintWords Go.Proofs.YtcnkgodooignpaaW.PrintLast Go.Proofs.YtcnkgodooignpaaW.PrintMore Go.Proofs.Ytcnkgodooignpaa.PAll
set_option linter.unusedVariables false
set_option linter.unusedSimpArgs false
theorem hits_l0 (a : List S46) (hn : a.length ≤ 4000000000) : ∀ (d k i : Nat), i + d = a.length → d + 1 ≤ k → lanyardlaw14_hits.l0 k a a (a.length : Int) (i : Int) = some true := by
  intro d
  induction d with
  | zero =>
    intro k i hi hk
    obtain ⟨k, rfl⟩ : ∃ m, k = m + 1 := ⟨k - 1, by omega⟩
    simp only [lanyardlaw14_hits.l0]
    rw [if_neg (by omega)]
  | succ d ih =>
    intro k i hi hk
    obtain ⟨k, rfl⟩ : ∃ m, k = m + 1 := ⟨k - 1, by omega⟩
    simp only [lanyardlaw14_hits.l0]
    rw [if_pos (by omega), if_pos (by omega), if_pos (by omega), if_pos (by omega), if_neg (by simp), wrapN (show (i : Int) + 1 = ((i + 1 : Nat) : Int) by omega) (by omega) (by omega)]
    exact ih k (i + 1) (by omega) (by omega)
theorem hits_f (a : List S46) (hn : a.length ≤ 4000000000) : lanyardlaw14_hits.f 5000000000 a a = some true := by
  unfold lanyardlaw14_hits.f
  rw [if_pos rfl]
  exact hits_l0 a hn a.length 5000000000 0 (by omega) (by omega)
theorem hits_calls {w : World} {b1 b2 : Nat} {v1 v2 : Value} {a : List S46} (h1 : Kd.R k46 46 w b1 (fun _ => True) v1 a) (h2 : Kd.R k46 46 w b2 (fun _ => True) v2 a) (hn : a.length ≤ 4000000000) :
    Calls Try.prog 12 #[v1, v2] w fun e w' => e = .returned (.bool true) ∧ Drawn0 w w' := by
  obtain ⟨A1, c1, rfl, hc1, hC1⟩ := Kd.R_reads h1
  obtain ⟨A2, c2, rfl, hc2, hC2⟩ := Kd.R_reads h2
  exact lanyardlaw14_hits.calls 5000000000 A1 c1 a A2 c2 a true w hC1 hc1 hC2 hc2 (hits_f a hn)
def putB (mt : Bool) (l : List Int) : List Int := if mt then metaL l else l
theorem putB_append (mt : Bool) (a b : List Int) : putB mt (a ++ b) = putB mt a ++ putB mt b := by
  cases mt
  · rfl
  · exact List.flatMap_append
theorem putB_len (mt : Bool) (l : List Int) : (putB mt l).length ≤ 2 * l.length := by
  cases mt
  · show l.length ≤ _
    omega
  · exact metaL_len l
theorem put_calls' {w : World} {own : Nat → Prop} {g gm : Nat} {F : Key} {c : Nat} {mt : Bool} {s : ByteArray} (h : RD w own g gm F c mt s) (A0 : Option Addr) (c0 : Nat) (l : List Int) (hC : ∀ W, Fr (fun k => k = g) w W → Kd.C (Kd.int .u8) W A0 l.length l) (hc0 : l.length ≤ c0) (hn : s.size + 2 * l.length ≤ 1000000000) :
    Calls Try.prog 11 #[.pointer (some ⟨g, 0, none⟩), .slice A0 l.length c0] w (HitsPost (fun s hs s' => Puts F s (putB mt l) hs s') w own g gm F c mt s) := by
  cases mt
  · exact put_plain h A0 c0 l hC hc0 (by omega)
  · exact put_meta h A0 c0 l (hC w (Fr.refl _ _)) hc0 hn
theorem Puts.len {F : Key} {s : ByteArray} {l : List Int} {a : List S46} {s' : ByteArray} (h : Puts F s l a s') : a.length + s'.size ≤ s.size + l.length := by
  induction h with
  | nil => simp
  | cons hr hp ih =>
    have := hr.len
    rw [add_size] at this
    simp only [List.length_append, List.length_cons]
    omega
/-- A row that came in stays. -/
theorem row_in {w0 w W : World} {A : Option Addr} {n : Nat} {l : List Int} {g : Nat} (h : Kd.C (Kd.int .u8) w0 A n l) (hb : Below w0.heap.size w0 w) (hg : w0.heap.size ≤ g) (hf : Fr (fun k => k = g) w W) : Kd.C (Kd.int .u8) W A n l :=
  Kd.C_below h (hb.trans (hf.below (fun k e => e ▸ hg) hb.size))
theorem R46_base {w : World} {base : Nat} {ok : Nat → Prop} {v : Value} {xs : List S46} (h : Kd.R k46 46 w base ok v xs) : ∀ k, some k = v.ownBlock → base ≤ k := fun k hk => by
  obtain ⟨_, inner, ho, _⟩ := h
  exact own_base ho k hk.symm
theorem R46_new {w w' : World} {base : Nat} {ok : Nat → Prop} {v : Value} {xs : List S46} {g : Nat} (h : Kd.R k46 46 w base ok v xs) (hf : Fr (fun k => k = g) w w') (hg : g < base) : Kd.R k46 46 w' base (fun _ => True) v xs :=
  R46_fr h hf (fun k hk e => by have := R46_base h k hk; omega)
/-- Two readers that have nothing in common. -/
structure Apart (o1 : Nat → Prop) (g1 : Nat) (o2 : Nat → Prop) (g2 : Nat) : Prop where
  ne : g1 ≠ g2
  n1 : ¬ o1 g2
  n2 : ¬ o2 g1
theorem Apart.symm {o1 o2 : Nat → Prop} {g1 g2 : Nat} (h : Apart o1 g1 o2 g2) : Apart o2 g2 o1 g1 := ⟨h.ne.symm, h.n2, h.n1⟩
theorem Apart.of {w : World} {o1 o2 : Nat → Prop} {g1 g2 m1 : Nat} {F : Key} {c : Nat} {mt : Bool} {s : ByteArray} (h : RD w o1 g1 m1 F c mt s) (hg : w.heap.size ≤ g2) (ho : ∀ k, o2 k → w.heap.size ≤ k) : Apart o1 g1 o2 g2 :=
  ⟨fun e => by have := h.lt; omega, fun e => by have := h.km.olt _ e; omega, fun e => by have := ho _ e; have := h.lt; omega⟩
theorem RD.apart {w w' : World} {o1 o2 : Nat → Prop} {g1 g2 m2 : Nat} {F : Key} {c : Nat} {mt : Bool} {s : ByteArray} (h : RD w o2 g2 m2 F c mt s) (ha : Apart o1 g1 o2 g2) (hf : Fr (fun k => k = g1) w w') : RD w' o2 g2 m2 F c mt s :=
  h.fr hf (fun e => ha.ne e.symm) (fun k hk e => ha.n2 (e ▸ hk))
section
variable {w W : World} {own : Nat → Prop} {g gm : Nat} {F : Key} {c : Nat} {mt : Bool} {s : ByteArray} {A : Option Addr} {c0 k : Nat} {l : List Int}
theorem put_all (hC : Kd.C (Kd.int .u8) w A l.length l) (hc : l.length ≤ c0) (hl : l.length ≤ 100000000) (hb : Below w.heap.size w W) (hg : w.heap.size ≤ g) (h : RD W own g gm F c mt s) (hs : s.size ≤ 300000000) :
    Calls Try.prog 11 #[.pointer (some ⟨g, 0, none⟩), .slice A l.length c0] W (HitsPost (fun s hs s' => Puts F s (putB mt l) hs s') W own g gm F c mt s) :=
  put_calls' h A c0 l (fun W' hf => row_in hC hb hg hf) hc (by omega)
theorem put_take (hC : Kd.C (Kd.int .u8) w A l.length l) (hc : l.length ≤ c0) (hl : l.length ≤ 100000000) (hk : k ≤ l.length) (hb : Below w.heap.size w W) (hg : w.heap.size ≤ g) (h : RD W own g gm F c mt s) (hs : s.size ≤ 300000000) :
    Calls Try.prog 11 #[.pointer (some ⟨g, 0, none⟩), .slice A k c0] W (HitsPost (fun s hs s' => Puts F s (putB mt (l.take k)) hs s') W own g gm F c mt s) := by
  have hlen : (l.take k).length = k := by rw [List.length_take]; omega
  have := put_all (c0 := c0) (Kd.C_take hC hk) (by omega) (by omega) hb hg h hs
  rwa [hlen] at this
theorem put_drop (hC : Kd.C (Kd.int .u8) w A l.length l) (hc : l.length ≤ c0) (hl : l.length ≤ 100000000) (hk : k ≤ l.length) (hb : Below w.heap.size w W) (hg : w.heap.size ≤ g) (h : RD W own g gm F c mt s) (hs : s.size ≤ 300000000) :
    Calls Try.prog 11 #[.pointer (some ⟨g, 0, none⟩), .slice (if c0 = k then A else A.map (·.add (k * 1))) (l.length - k) (c0 - k)] W (HitsPost (fun s hs s' => Puts F s (putB mt (l.drop k)) hs s') W own g gm F c mt s) := by
  have hlen : (l.drop k).length = l.length - k := List.length_drop
  have := put_all (c0 := c0 - k) (Kd.C_drop hC hk hc) (by omega) (by omega) hb hg h hs
  rwa [hlen] at this
end
theorem RD.far {W0 W w1 : World} {own : Nat → Prop} {g gm : Nat} {F : Key} {c : Nat} {mt : Bool} {s s0 : ByteArray} (h0 : RD W0 own g gm F c mt s0) (h : RD W own g gm F c mt s) {N : Nat → Prop} (hf : Fr N W w1) (hN : ∀ k, N k → W0.heap.size ≤ k) : RD w1 own g gm F c mt s :=
  h.fr hf (fun e => by have := hN _ e; have := h0.lt; omega) (fun k hk e => by have := hN _ e; have := h0.km.olt k hk; omega)
theorem grown_Fr {W w1 : World} {v : Value} (h : W.grownBy w1 v.ownBlock) : Fr (fun k => some k = v.ownBlock) W w1 := Fr.of_grown h (fun k hk => hk.symm)
theorem drawn_RD {W w1 : World} {own : Nat → Prop} {g gm : Nat} {F : Key} {c : Nat} {mt : Bool} {s : ByteArray} (h : RD W own g gm F c mt s) (hd : Drawn0 W w1) : RD w1 own g gm F c mt s := by
  obtain ⟨n, rfl⟩ := hd
  exact h.drewN n
theorem R46_lt {w : World} {base : Nat} {ok : Nat → Prop} {v : Value} {xs : List S46} (h : Kd.R k46 46 w base ok v xs) : ∀ k, some k = v.ownBlock → k < w.heap.size := fun k hk => by
  obtain ⟨_, inner, ho, _⟩ := h
  exact own_lt ho k hk.symm
end Go.Proofs.Ytcnkgodooignpaa
