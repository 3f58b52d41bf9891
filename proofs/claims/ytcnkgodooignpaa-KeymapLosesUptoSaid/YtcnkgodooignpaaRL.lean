/-
  A reader in memory: Put.
-/
import Derived.Test.YtcnkgodooignpaaRK
namespace Go.Proofs.Ytcnkgodooignpaa
open Go.RowKit Go.WideShapes Go.Proofs.YtcnkgodooignpaaW.PrintWords Go.Proofs.YtcnkgodooignpaaW.PrintLast Go.Proofs.YtcnkgodooignpaaW.PrintMore Go.Proofs.Ytcnkgodooignpaa.PAll
set_option linter.unusedVariables false
set_option linter.unusedSimpArgs false
attribute [local go_sem] max2_int min2_int max_two min_two max_three min_three max_four min_four
/-! ### Meta -/
/-- A byte, with an ESC ahead of it where it is above 127. -/
def metaB (x : Int) : List Int := if x > 127 then [27, Go.bits .and .u8 x 127] else [Go.bits .and .u8 x 127]
def metaL (l : List Int) : List Int := l.flatMap metaB
theorem metaB_len (x : Int) : 1 ≤ (metaB x).length ∧ (metaB x).length ≤ 2 := by
  unfold metaB
  split <;> simp
theorem metaL_len (l : List Int) : (metaL l).length ≤ 2 * l.length := by
  induction l with
  | nil => simp [metaL]
  | cons x l ih =>
    have h := (metaB_len x).2
    have e : metaL (x :: l) = metaB x ++ metaL l := rfl
    rw [e, List.length_append, List.length_cons]
    omega
theorem rd_nat (l : List Int) (i : Nat) (h : i < l.length) : rd l (i : Int) = l[i] := by
  simp [rd, List.getElem?_eq_getElem h]
theorem meta_l0 (l : List Int) (hn : l.length ≤ 1000000000) : ∀ (d k i : Nat) (acc : List Int), i + d = l.length → d + 1 ≤ k → acc.length ≤ 2 * i → keymap_Meta.l0 k acc l (l.length : Int) (i : Int) = some (acc ++ metaL (l.drop i)) := by
  intro d
  induction d with
  | zero =>
    intro k i acc hi hk ha
    obtain ⟨k, rfl⟩ : ∃ m, k = m + 1 := ⟨k - 1, by omega⟩
    simp only [keymap_Meta.l0]
    rw [if_neg (by omega), List.drop_of_length_le (by omega)]
    simp [metaL]
  | succ d ih =>
    intro k i acc hi hk ha
    obtain ⟨k, rfl⟩ : ∃ m, k = m + 1 := ⟨k - 1, by omega⟩
    have hlt : i < l.length := by omega
    have e : metaL (l.drop i) = metaB l[i] ++ metaL (l.drop (i + 1)) := by rw [List.drop_eq_getElem_cons hlt]; rfl
    simp only [keymap_Meta.l0]
    rw [if_pos (by omega), if_pos (by omega), if_pos (by omega), rd_nat l i hlt, e]
    by_cases c : l[i] > 127
    · rw [if_pos c, if_pos (by omega)]
      simp only [Option.bind_some]
      rw [if_pos (by simp; omega), wrapN (show (i : Int) + 1 = ((i + 1 : Nat) : Int) by omega) (by omega) (by omega), ih k (i + 1) _ (by omega) (by omega) (by simp; omega)]
      simp [metaB, c]
    · rw [if_neg c, if_pos (by omega), wrapN (show (i : Int) + 1 = ((i + 1 : Nat) : Int) by omega) (by omega) (by omega), ih k (i + 1) _ (by omega) (by omega) (by simp; omega)]
      simp [metaB, c]
theorem meta_f (l : List Int) (hn : l.length ≤ 1000000000) : keymap_Meta.f 2000000000 l = some (metaL l) := by
  have := meta_l0 l hn l.length 2000000000 0 [] (by omega) (by omega) (by simp)
  rw [List.drop_zero, List.nil_append] at this
  exact this
theorem meta_calls (A0 : Option Addr) (c0 : Nat) (l0 : List Int) (w : World) (hr0 : Kd.C (Kd.int .u8) w A0 l0.length l0) (hc0 : l0.length ≤ c0) (hn : l0.length ≤ 1000000000) :
    Calls Try.prog 14 #[.slice A0 l0.length c0] w fun e w' => ∃ v0_ : Value, e = .returned (v0_) ∧ Kd.R (Kd.int .u8) 5 w' w.heap.size (fun _ => True) v0_ (metaL l0) ∧ Below w.heap.size w w' :=
  keymap_Meta.calls 2000000000 A0 c0 l0 _ w hr0 hc0 (meta_f l0 hn)
/-! ### Put -/
/-- What bytes are read as, one behind the other. -/
inductive Puts (F : Key) : ByteArray → List Int → List S46 → ByteArray → Prop
  | nil {s : ByteArray} : Puts F s [] [] s
  | cons {s : ByteArray} {b : Int} {bs : List Int} {h1 h2 : List S46} {s1 s2 : ByteArray} (hr : Reads F (s ++ strOfNums [b]) h1 s1) (hp : Puts F s1 bs h2 s2) : Puts F s (b :: bs) (h1 ++ h2) s2
theorem Puts.det {F : Key} {s : ByteArray} {l : List Int} {a b : List S46} {s1 s2 : ByteArray} (h : Puts F s l a s1) (k : Puts F s l b s2) : a = b ∧ s1 = s2 := by
  induction h generalizing b s2 with
  | nil => cases k; exact ⟨rfl, rfl⟩
  | cons hr hp ih =>
    cases k with
    | cons kr kp =>
      obtain ⟨e1, e2⟩ := hr.det kr
      subst e1 e2
      obtain ⟨e3, e4⟩ := ih kp
      exact ⟨by rw [e3], e4⟩
theorem Puts.append {F : Key} {s s1 s2 : ByteArray} {l m : List Int} {a b : List S46} (h : Puts F s l a s1) (k : Puts F s1 m b s2) : Puts F s (l ++ m) (a ++ b) s2 := by
  induction h with
  | nil => exact k
  | cons hr hp ih =>
    rw [List.cons_append, List.append_assoc]
    exact .cons hr (ih k)
theorem one_size (b : Int) : (strOfNums [b]).size = 1 := rfl
theorem add_size (s : ByteArray) (b : Int) : (s ++ strOfNums [b]).size = s.size + 1 := by
  rw [ByteArray.size_append, one_size]
theorem R5_one {w : World} {base : Nat} {ok : Nat → Prop} {v : Value} {xs : List Int} (h : Kd.R (Kd.int .u8) 5 w base ok v xs) : Kd.R (Kd.int .u8) 5 w base (fun k => some k = v.ownBlock) v xs :=
  Kd.R_of_own (Kd.own_of_R h) (fun k hk => hk.symm)
theorem R5_fr {w w' : World} {base : Nat} {ok : Nat → Prop} {v : Value} {xs : List Int} {N : Nat → Prop} (h : Kd.R (Kd.int .u8) 5 w base ok v xs) (hf : Fr N w w') (hN : ∀ k, some k = v.ownBlock → ¬ N k) : Kd.R (Kd.int .u8) 5 w' base (fun _ => True) v xs :=
  Kd.R_mono (R_fr (R5_one h) hf hN) (fun _ _ => trivial)
theorem lit5 (w : World) (x : Int) : Kd.C (Kd.int .u8) (w.alloc (.cells #[.int .u8 x] 5)) (some ⟨w.heap.size, 0, none⟩) 1 [x] := by
  have h := OwnRow.lit (R := (Kd.int .u8).K w) (size := 1) (e := 5) w w.heap.size (ps := [x]) (inner := [.int .u8 x]) ?_ (Nat.le_refl _) (by simp [Value.oneCell'])
  · obtain ⟨A, c, e, _, hr⟩ := h.reads
    injection e with e1 e2 e3
    subst e1
    exact hr.imp_ (Below.refl _ _) (fun p cs hp => (Kd.int .u8).K_below (below_alloc (Below.refl _ _) _) hp)
  · exact Reps.snoc (Reps.none ((Kd.int .u8).K w) 1) rfl rfl
/-- What is behind a round of Put. -/
structure PutsSt (w wr : World) (own : Nat → Prop) (g gm : Nat) (F : Key) (c : Nat) (mt : Bool) (s : ByteArray) (l : List Int) (k : Nat) (v : Value) (hs : List S46) (sk : ByteArray) : Prop where
  go : ∀ hs' s', Puts F sk (l.drop k) hs' s' → Puts F s l (hs ++ hs') s'
  row : Kd.R k46 46 wr w.heap.size (fun _ => True) v hs
  rd : RD wr own g gm F c mt sk
  fr : Fr (fun k => k = g) w wr
  len : hs.length + sk.size ≤ s.size + k
theorem PutsSt.step {w wr w1 : World} {own : Nat → Prop} {g gm : Nat} {F : Key} {c : Nat} {mt : Bool} {s : ByteArray} {l : List Int} {k : Nat} {v v1 : Value} {hs h1 : List S46} {sk s1 : ByteArray} (h : PutsSt w wr own g gm F c mt s l k v hs sk) (hk : k < l.length)
    (hr : Reads F (sk ++ strOfNums [l[k]]) h1 s1) (hrow : Kd.R k46 46 w1 w.heap.size (fun _ => True) v1 (hs ++ h1)) (hrd : RD w1 own g gm F c mt s1) (hfr : Fr (fun k => k = g) w w1) : PutsSt w w1 own g gm F c mt s l (k + 1) v1 (hs ++ h1) s1 := by
  refine ⟨fun hs' s' hp => ?_, hrow, hrd, hfr, ?_⟩
  · rw [List.append_assoc]
    refine h.go _ _ ?_
    rw [List.drop_eq_getElem_cons hk]
    exact .cons hr hp
  · have := h.len
    have := hr.len
    rw [add_size] at this
    rw [List.length_append]
    omega
set_option maxRecDepth 100000 in
set_option maxHeartbeats 2000000 in
theorem put_plain {w : World} {own : Nat → Prop} {g gm : Nat} {F : Key} {c : Nat} {s : ByteArray} (h : RD w own g gm F c false s) (A0 : Option Addr) (c0 : Nat) (l : List Int) (hC : ∀ W, Fr (fun k => k = g) w W → Kd.C (Kd.int .u8) W A0 l.length l) (hc0 : l.length ≤ c0) (hn : s.size + l.length ≤ 1000000000) :
    Calls Try.prog 11 #[.pointer (some ⟨g, 0, none⟩), .slice A0 l.length c0] w (HitsPost (fun s hs s' => Puts F s l hs s') w own g gm F c false s) := by
  have HOL := Aside0.mk h.km.olt
  have HGL := Aside0.mk h.lt
  have HS0 : Aside0 (PutsSt w w own g gm F c false s l 0 (.slice none 0 0) [] s) := ⟨⟨fun _ _ h => h, Kd.R_nil _ _ _ _ _, h, Fr.refl _ _, by simp⟩⟩
  have HCC := Aside0.mk hC
  have c1 := h.c1
  clear hC
  go_enter Try.func11, Try.ntmps11
  go_wp2_with (go_at_call 39; go_loud (refine (rnone_calls h).mono ?_; rintro e w' ⟨rfl, rfl⟩))
  clear c1
  go_loopw [18, 5] (fun i v wr => ∃ (k : Nat) (hs : List S46) (sk : ByteArray), k ≤ l.length ∧ i = .int .i64 (k : Int) ∧ Aside0 (PutsSt w wr own g gm F c false s l k v hs sk)) (fun i v wr => l.length - (intOf i).toNat)
  case atStart => exact ⟨0, [], s, Nat.zero_le _, rfl, HS0⟩
  case round =>
    obtain ⟨k, hl, sk, hk, rfl, HS⟩ := hrel
    obtain ⟨A, cp, rfl⟩ := Kd.R_slice HS.out.row
    by_cases hlt : k < l.length
    · obtain ⟨ad, e7, hx0⟩ := Kd.at_int (HCC.out wr HS.out.fr) (k : Int) (by omega) (by omega)
      cases e7
      rw [rd_nat l k hlt, Int.toNat_natCast] at hx0
      have HLT := Aside0.mk hlt
      have c2 := HS.out.rd.c2
      have f2 := HS.out.rd.fz 2
      have HR := Aside0.mk HS.out.rd
      have HLEN := Aside0.mk HS.out.len
      obtain ⟨x, hx⟩ : ∃ x, x = l[k] := ⟨_, rfl⟩
      rw [← hx] at hx0
      have HX := Aside0.mk hx
      clear hx
      have hal := below_alloc (Below.refl wr.heap.size wr) (.cells #[.int .u8 x] 5)
      have hcv : (convert 23 9 (.slice (some ⟨wr.heap.size, 0, none⟩) 1 1)).run Try.prog (wr.alloc (.cells #[.int .u8 x] 5)).drew = .ok (.string (strOfNums [x])) (wr.alloc (.cells #[.int .u8 x] 5)).drew := Kd.C_string Try.underlying23 Try.underlying5 Try.underlying9 (Kd.C_drew (lit5 wr x))
      have c2a : (wr.alloc (.cells #[.int .u8 x] 5)).cell? ⟨g, 2, none⟩ = some (.string sk) := (HS.out.rd.below hal).c2
      have f2a : (wr.alloc (.cells #[.int .u8 x] 5)).frozen? ⟨g, 2, none⟩ = false := (HS.out.rd.below hal).fz 2
      have hsz : sk.size + 1 ≤ 140737488355328 := by have := HLEN.out; omega
      have h1z : (strOfNums [x]).size = 1 := rfl
      clear hal
      go_wp2
      go_region
      have hal2 := below_alloc (Below.refl wr.heap.size wr) (.cells #[.int .u8 x] 5)
      have HR1 : Aside0 (RD ((wr.alloc (.cells #[.int .u8 x] 5)).setCell ⟨g, 2, none⟩ (.string (sk ++ strOfNums [x]))).drew own g gm F c false (sk ++ strOfNums [x])) := ⟨((HR.out.below hal2).put (sk ++ strOfNums [x])).drewN 1⟩
      have HF1 : Aside0 (Fr (fun k => k = g) w ((wr.alloc (.cells #[.int .u8 x] 5)).setCell ⟨g, 2, none⟩ (.string (sk ++ strOfNums [x]))).drew) := ⟨((HS.out.fr.alloc _).set (p := ⟨g, 2, none⟩) (.inl rfl) _).drewN 1⟩
      have HV1 : Aside0 (Kd.R k46 46 ((wr.alloc (.cells #[.int .u8 x] 5)).setCell ⟨g, 2, none⟩ (.string (sk ++ strOfNums [x]))).drew w.heap.size (fun _ => True) (.slice A hl.length cp) hl) := ⟨Kd.R_drew (Kd.R_set (Kd.R_alloc HS.out.row _) (HR.out.below hal2).box (by decide) 2 _)⟩
      clear hcv c2a f2a h1z hx0 c2 f2 hal2
      have hle : (sk ++ strOfNums [x]).size ≤ 1000000000 := by rw [add_size]; have := HLEN.out; omega
      change Exit.then _ _ _ _ ((wr.alloc (.cells #[.int .u8 x] 5)).setCell ⟨g, 2, none⟩ (.string (sk ++ strOfNums [x]))).drew
      generalize ((wr.alloc (.cells #[.int .u8 x] 5)).setCell ⟨g, 2, none⟩ (.string (sk ++ strOfNums [x]))).drew = W1 at HR1 HF1 HV1 ⊢
      go_wp2_with (first
        | (go_at_call 40; go_loud (refine (reads_calls HR1.out hle).mono ?_; rintro e w5 ⟨v5, h5, s5, rfl, hq5, hv5, hRD5, hF5⟩; obtain ⟨A5, c5, rfl⟩ := Kd.R_slice hv5; have HQ5 := Aside0.mk hq5; have HN5 := Aside0.mk hv5; have HR5 := Aside0.mk hRD5; have HF5 := Aside0.mk (HF1.out.trans hF5 (fun _ _ h => h)); have HV5 := Aside0.mk (R46_fr HV1.out hF5 (fun k hk e => Kd.R_ne HV1.out HR1.out.box (by decide) (e ▸ hk))); clear hq5 hv5 hRD5 hF5))
        | ((with_reducible refine gate_builtin (b := .append) (xs := #[.tmp 32, .tmp 34]) rfl ?_); at_builtin; go_loud (refine Kd.R_append_rows k46 (w0 := w5) w.heap.size rfl (.tmp 32) (.tmp 34) 33 46 (.agg #[.string ⟨#[]⟩, .int .i64 0, .string ⟨#[]⟩, .string ⟨#[]⟩]) 56 rfl Try.underlying33 info46 rfl (by decide) (by omega) (.slice A hl.length cp) hl h5 _ _ _ (fun _ => True) (fun _ => False) rfl rfl HV5.out (Kd.R_reads' HN5.out).2.2 (fun x cs h => M_of_K46 _ _ x cs h) (fun _ h => h.elim) (fun _ _ => trivial) (Below.refl _ _) HF5.out.size (by have := HLEN.out; have := HQ5.out.len; rw [add_size] at this; omega) ?_); intro v6 w6 hR6 hb6 hg6 hat6))
      obtain ⟨hR7, hF7⟩ := grown_RD HR5.out HF5.out HV5.out HOL.out HGL.out hg6
      have HN := Aside0.mk (HS.out.step HLT.out (by rw [← HX.out]; exact HQ5.out) hR6 hR7 hF7)
      clear hR6 hb6 hg6 hat6 hR7 hF7
      go_roundw
      case rel => exact ⟨k + 1, _, _, by omega, by simp, HN⟩
      case measure => simp [intOf]; omega
    · obtain rfl : k = l.length := by omega
      go_wp2
      go_ret
      have hgo := HS.out.go [] sk (by rw [List.drop_length]; exact .nil)
      rw [List.append_nil] at hgo
      exact ⟨_, hl, sk, rfl, hgo, HS.out.row, HS.out.rd, HS.out.fr⟩
set_option maxRecDepth 100000 in
set_option maxHeartbeats 2000000 in
theorem put_meta {w : World} {own : Nat → Prop} {g gm : Nat} {F : Key} {c : Nat} {s : ByteArray} (h : RD w own g gm F c true s) (A0 : Option Addr) (c0 : Nat) (l : List Int) (hC : Kd.C (Kd.int .u8) w A0 l.length l) (hc0 : l.length ≤ c0) (hn : s.size + 2 * l.length ≤ 1000000000) :
    Calls Try.prog 11 #[.pointer (some ⟨g, 0, none⟩), .slice A0 l.length c0] w (HitsPost (fun s hs s' => Puts F s (metaL l) hs s') w own g gm F c true s) := by
  have HOL := Aside0.mk h.km.olt
  have HGL := Aside0.mk h.lt
  have HML := metaL_len l
  have c1 := h.c1
  have HH := Aside0.mk h
  go_enter Try.func11, Try.ntmps11
  go_wp2_with (first
    | (go_at_call 39; go_loud (refine (rnone_calls h).mono ?_; rintro e w' ⟨rfl, rfl⟩))
    | (go_at_call 14; go_loud (refine (meta_calls A0 c0 l _ hC hc0 (by omega)).mono ?_; rintro e w2 ⟨v2, rfl, hv2, hb2⟩; obtain ⟨A2, c2_, rfl⟩ := Kd.R_slice hv2; have hle2 := (Kd.R_reads' hv2).2.1; have HV2 := Aside0.mk hv2; have HB2 := Aside0.mk hb2; clear hv2 hb2)))
  clear c1
  have HS0 : Aside0 (PutsSt w2 w2 own g gm F c true s (metaL l) 0 (.slice none 0 0) [] s) := ⟨⟨fun _ _ h => h, Kd.R_nil _ _ _ _ _, HH.out.below HB2.out, Fr.refl _ _, by simp⟩⟩
  have HCC := Aside0.mk (fun (W : World) (hW : Fr (fun k => k = g) w2 W) => (Kd.R_reads' (R5_fr HV2.out hW (fun k hk e => Kd.R_ne HV2.out (HH.out.below HB2.out).box (by decide) (e ▸ hk)))).2.2)
  have HOL2 := Aside0.mk (fun k hk => Nat.lt_of_lt_of_le (HOL.out k hk) HB2.out.size : ∀ k, own k → k < w2.heap.size)
  have HGL2 := Aside0.mk (Nat.lt_of_lt_of_le HGL.out HB2.out.size)
  obtain ⟨m, hm⟩ : ∃ m, m = metaL l := ⟨_, rfl⟩
  rw [← hm] at HML HS0 HCC hle2 ⊢
  have HM := Aside0.mk hm
  clear hm HOL HGL
  have HOL := HOL2
  have HGL := HGL2
  go_loopw [18, 5] (fun i v wr => ∃ (k : Nat) (hs : List S46) (sk : ByteArray), k ≤ m.length ∧ i = .int .i64 (k : Int) ∧ Aside0 (PutsSt w2 wr own g gm F c true s m k v hs sk)) (fun i v wr => m.length - (intOf i).toNat)
  case atStart => exact ⟨0, [], s, Nat.zero_le _, rfl, HS0⟩
  case round =>
    obtain ⟨k, hl, sk, hk, rfl, HS⟩ := hrel
    obtain ⟨A, cp, rfl⟩ := Kd.R_slice HS.out.row
    by_cases hlt : k < m.length
    · obtain ⟨ad, e7, hx0⟩ := Kd.at_int (HCC.out wr HS.out.fr) (k : Int) (by omega) (by omega)
      cases e7
      rw [rd_nat m k hlt, Int.toNat_natCast] at hx0
      have HLT := Aside0.mk hlt
      have c2 := HS.out.rd.c2
      have f2 := HS.out.rd.fz 2
      have HR := Aside0.mk HS.out.rd
      have HLEN := Aside0.mk HS.out.len
      obtain ⟨x, hx⟩ : ∃ x, x = m[k] := ⟨_, rfl⟩
      rw [← hx] at hx0
      have HX := Aside0.mk hx
      clear hx
      have hal := below_alloc (Below.refl wr.heap.size wr) (.cells #[.int .u8 x] 5)
      have hcv : (convert 23 9 (.slice (some ⟨wr.heap.size, 0, none⟩) 1 1)).run Try.prog (wr.alloc (.cells #[.int .u8 x] 5)).drew = .ok (.string (strOfNums [x])) (wr.alloc (.cells #[.int .u8 x] 5)).drew := Kd.C_string Try.underlying23 Try.underlying5 Try.underlying9 (Kd.C_drew (lit5 wr x))
      have c2a : (wr.alloc (.cells #[.int .u8 x] 5)).cell? ⟨g, 2, none⟩ = some (.string sk) := (HS.out.rd.below hal).c2
      have f2a : (wr.alloc (.cells #[.int .u8 x] 5)).frozen? ⟨g, 2, none⟩ = false := (HS.out.rd.below hal).fz 2
      have hsz : sk.size + 1 ≤ 140737488355328 := by have := HLEN.out; omega
      have h1z : (strOfNums [x]).size = 1 := rfl
      clear hal
      go_wp2
      go_region
      have hal2 := below_alloc (Below.refl wr.heap.size wr) (.cells #[.int .u8 x] 5)
      have HR1 : Aside0 (RD ((wr.alloc (.cells #[.int .u8 x] 5)).setCell ⟨g, 2, none⟩ (.string (sk ++ strOfNums [x]))).drew own g gm F c true (sk ++ strOfNums [x])) := ⟨((HR.out.below hal2).put (sk ++ strOfNums [x])).drewN 1⟩
      have HF1 : Aside0 (Fr (fun k => k = g) w2 ((wr.alloc (.cells #[.int .u8 x] 5)).setCell ⟨g, 2, none⟩ (.string (sk ++ strOfNums [x]))).drew) := ⟨((HS.out.fr.alloc _).set (p := ⟨g, 2, none⟩) (.inl rfl) _).drewN 1⟩
      have HV1 : Aside0 (Kd.R k46 46 ((wr.alloc (.cells #[.int .u8 x] 5)).setCell ⟨g, 2, none⟩ (.string (sk ++ strOfNums [x]))).drew w2.heap.size (fun _ => True) (.slice A hl.length cp) hl) := ⟨Kd.R_drew (Kd.R_set (Kd.R_alloc HS.out.row _) (HR.out.below hal2).box (by decide) 2 _)⟩
      clear hcv c2a f2a h1z hx0 c2 f2 hal2
      have hle : (sk ++ strOfNums [x]).size ≤ 1000000000 := by rw [add_size]; have := HLEN.out; omega
      change Exit.then _ _ _ _ ((wr.alloc (.cells #[.int .u8 x] 5)).setCell ⟨g, 2, none⟩ (.string (sk ++ strOfNums [x]))).drew
      generalize ((wr.alloc (.cells #[.int .u8 x] 5)).setCell ⟨g, 2, none⟩ (.string (sk ++ strOfNums [x]))).drew = W1 at HR1 HF1 HV1 ⊢
      go_wp2_with (first
        | (go_at_call 40; go_loud (refine (reads_calls HR1.out hle).mono ?_; rintro e w5 ⟨v5, h5, s5, rfl, hq5, hv5, hRD5, hF5⟩; obtain ⟨A5, c5, rfl⟩ := Kd.R_slice hv5; have HQ5 := Aside0.mk hq5; have HN5 := Aside0.mk hv5; have HR5 := Aside0.mk hRD5; have HF5 := Aside0.mk (HF1.out.trans hF5 (fun _ _ h => h)); have HV5 := Aside0.mk (R46_fr HV1.out hF5 (fun k hk e => Kd.R_ne HV1.out HR1.out.box (by decide) (e ▸ hk))); clear hq5 hv5 hRD5 hF5))
        | ((with_reducible refine gate_builtin (b := .append) (xs := #[.tmp 32, .tmp 34]) rfl ?_); at_builtin; go_loud (refine Kd.R_append_rows k46 (w0 := w5) w2.heap.size rfl (.tmp 32) (.tmp 34) 33 46 (.agg #[.string ⟨#[]⟩, .int .i64 0, .string ⟨#[]⟩, .string ⟨#[]⟩]) 56 rfl Try.underlying33 info46 rfl (by decide) (by omega) (.slice A hl.length cp) hl h5 _ _ _ (fun _ => True) (fun _ => False) rfl rfl HV5.out (Kd.R_reads' HN5.out).2.2 (fun x cs h => M_of_K46 _ _ x cs h) (fun _ h => h.elim) (fun _ _ => trivial) (Below.refl _ _) HF5.out.size (by have := HLEN.out; have := HQ5.out.len; rw [add_size] at this; omega) ?_); intro v6 w6 hR6 hb6 hg6 hat6))
      obtain ⟨hR7, hF7⟩ := grown_RD HR5.out HF5.out HV5.out HOL.out HGL.out hg6
      have HN := Aside0.mk (HS.out.step HLT.out (by rw [← HX.out]; exact HQ5.out) hR6 hR7 hF7)
      clear hR6 hb6 hg6 hat6 hR7 hF7
      go_roundw
      case rel => exact ⟨k + 1, _, _, by omega, by simp, HN⟩
      case measure => simp [intOf]; omega
    · obtain rfl : k = m.length := by omega
      go_wp2
      go_ret
      have hgo := HS.out.go [] sk (by rw [List.drop_length]; exact .nil)
      rw [List.append_nil] at hgo
      exact ⟨_, hl, sk, rfl, by rw [← HM.out]; exact hgo, Kd.R_lower HS.out.row HB2.out.size, HS.out.rd, (Fr.of_below (N := fun k => k = g) HB2.out).trans HS.out.fr (fun _ _ h => h)⟩
end Go.Proofs.Ytcnkgodooignpaa
