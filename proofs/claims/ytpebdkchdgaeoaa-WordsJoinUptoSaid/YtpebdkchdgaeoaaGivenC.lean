/-
  shwords.operator: how long the operator is that stands at a place of a line.
-/
import Derived.Test.YtpebdkchdgaeoaaGivenB
import Derived.Test.YtpebdkchdgaeoaaPAllx0
import Derived.Laws.Cover4
namespace Go.Proofs.Ytpebdkchdgaeoaa
open Go.RowKit Go.Proofs.YtpebdkchdgaeoaaW.PrintWords Go.Proofs.YtpebdkchdgaeoaaW.PrintLast Go.Proofs.YtpebdkchdgaeoaaW.PrintMore
set_option linter.unusedVariables false
set_option linter.unusedSimpArgs false

theorem info9 : (Try.prog.info? 9).map (fun i => (i.zero, i.size, i.bytes)) = some (some (.string ⟨#[]⟩), 1, 16) := by kernel_rfl
open PAll in
def shwords_operators.f  : Option (List ByteArray) := some (([(⟨#[60, 60, 45]⟩ : ByteArray), (⟨#[60, 60, 60]⟩ : ByteArray), (⟨#[38, 62]⟩ : ByteArray), (⟨#[60, 60]⟩ : ByteArray), (⟨#[62, 62]⟩ : ByteArray), (⟨#[62, 38]⟩ : ByteArray), (⟨#[60, 38]⟩ : ByteArray), (⟨#[60, 62]⟩ : ByteArray), (⟨#[62, 124]⟩ : ByteArray), (⟨#[38, 38]⟩ : ByteArray), (⟨#[124, 124]⟩ : ByteArray), (⟨#[59, 59]⟩ : ByteArray), (⟨#[59, 38]⟩ : ByteArray), (⟨#[124, 38]⟩ : ByteArray)] : List ByteArray))
set_option maxHeartbeats 8000000 in
set_option maxRecDepth 100000 in
theorem shwords_operators.calls  (r : List ByteArray) (w : World) (h : shwords_operators.f  = some r) :
    Calls Try.prog 45 #[] w fun e w' => ∃ v0_ : Value, e = .returned (v0_) ∧ Kd.R Kd.string 9 w' w.heap.size (fun _ => True) v0_ r ∧ Below w.heap.size w w' := by
  have HB := Aside0.mk (Below.refl w.heap.size w)
  have H : (some (([(⟨#[60, 60, 45]⟩ : ByteArray), (⟨#[60, 60, 60]⟩ : ByteArray), (⟨#[38, 62]⟩ : ByteArray), (⟨#[60, 60]⟩ : ByteArray), (⟨#[62, 62]⟩ : ByteArray), (⟨#[62, 38]⟩ : ByteArray), (⟨#[60, 38]⟩ : ByteArray), (⟨#[60, 62]⟩ : ByteArray), (⟨#[62, 124]⟩ : ByteArray), (⟨#[38, 38]⟩ : ByteArray), (⟨#[124, 124]⟩ : ByteArray), (⟨#[59, 59]⟩ : ByteArray), (⟨#[59, 38]⟩ : ByteArray), (⟨#[124, 38]⟩ : ByteArray)] : List ByteArray))) = some r := h
  clear h
  obtain ⟨y125, hy125⟩ : ∃ y_ : List ByteArray, y_ = (([(⟨#[60, 60, 45]⟩ : ByteArray), (⟨#[60, 60, 60]⟩ : ByteArray), (⟨#[38, 62]⟩ : ByteArray), (⟨#[60, 60]⟩ : ByteArray), (⟨#[62, 62]⟩ : ByteArray), (⟨#[62, 38]⟩ : ByteArray), (⟨#[60, 38]⟩ : ByteArray), (⟨#[60, 62]⟩ : ByteArray), (⟨#[62, 124]⟩ : ByteArray), (⟨#[38, 38]⟩ : ByteArray), (⟨#[124, 124]⟩ : ByteArray), (⟨#[59, 59]⟩ : ByteArray), (⟨#[59, 38]⟩ : ByteArray), (⟨#[124, 38]⟩ : ByteArray)] : List ByteArray)) := ⟨_, rfl⟩
  replace H : (some y125) = some r := by first | (rw [hy125]; with_reducible exact H) | (have H2_ := (Option.bind_some _ _).symm.trans H; rw [hy125]; with_reducible exact H2_) | (have H2_ := (Option.bind_some _ _).symm.trans H; with_reducible exact H2_) | with_reducible exact H | (rw [hy125]; exact H) | exact H
  have Ny125 := Aside0.mk hy125
  clear hy125
  obtain rfl := Option.some.inj H
  go_enter Try.func45, Try.ntmps45
  go_wp2_with (first | ((with_reducible refine gate_dst (N := 1) rfl ?_); refine Kd.R_lit Kd.string _ 9 ?hg (N := 1) ?hd (xs := ([(⟨#[60, 60, 45]⟩ : ByteArray), (⟨#[60, 60, 60]⟩ : ByteArray), (⟨#[38, 62]⟩ : ByteArray), (⟨#[60, 60]⟩ : ByteArray), (⟨#[62, 62]⟩ : ByteArray), (⟨#[62, 38]⟩ : ByteArray), (⟨#[60, 38]⟩ : ByteArray), (⟨#[60, 62]⟩ : ByteArray), (⟨#[62, 124]⟩ : ByteArray), (⟨#[38, 38]⟩ : ByteArray), (⟨#[124, 124]⟩ : ByteArray), (⟨#[59, 59]⟩ : ByteArray), (⟨#[59, 38]⟩ : ByteArray), (⟨#[124, 38]⟩ : ByteArray)] : List ByteArray)) (inner := [.string (⟨#[60, 60, 45]⟩ : ByteArray), .string (⟨#[60, 60, 60]⟩ : ByteArray), .string (⟨#[38, 62]⟩ : ByteArray), .string (⟨#[60, 60]⟩ : ByteArray), .string (⟨#[62, 62]⟩ : ByteArray), .string (⟨#[62, 38]⟩ : ByteArray), .string (⟨#[60, 38]⟩ : ByteArray), .string (⟨#[60, 62]⟩ : ByteArray), .string (⟨#[62, 124]⟩ : ByteArray), .string (⟨#[38, 38]⟩ : ByteArray), .string (⟨#[124, 124]⟩ : ByteArray), .string (⟨#[59, 59]⟩ : ByteArray), .string (⟨#[59, 38]⟩ : ByteArray), .string (⟨#[124, 38]⟩ : ByteArray)]) (ok := fun _ => True) (okp := fun _ => True) ?hr ?hp (fun _ hk => hk) trivial (Below.refl _ _) (Nat.le_refl _) (by simp) ?_; (case hd => rfl); (case hg => rfl); (case hr => first | (go_simp; done) | (go_simp; rfl)); (case hp => exact (Reps.one (show Kd.M Kd.string _ _ _ (⟨#[60, 60, 45]⟩ : ByteArray) [.string (⟨#[60, 60, 45]⟩ : ByteArray)] from rfl) (Reps.one (show Kd.M Kd.string _ _ _ (⟨#[60, 60, 60]⟩ : ByteArray) [.string (⟨#[60, 60, 60]⟩ : ByteArray)] from rfl) (Reps.one (show Kd.M Kd.string _ _ _ (⟨#[38, 62]⟩ : ByteArray) [.string (⟨#[38, 62]⟩ : ByteArray)] from rfl) (Reps.one (show Kd.M Kd.string _ _ _ (⟨#[60, 60]⟩ : ByteArray) [.string (⟨#[60, 60]⟩ : ByteArray)] from rfl) (Reps.one (show Kd.M Kd.string _ _ _ (⟨#[62, 62]⟩ : ByteArray) [.string (⟨#[62, 62]⟩ : ByteArray)] from rfl) (Reps.one (show Kd.M Kd.string _ _ _ (⟨#[62, 38]⟩ : ByteArray) [.string (⟨#[62, 38]⟩ : ByteArray)] from rfl) (Reps.one (show Kd.M Kd.string _ _ _ (⟨#[60, 38]⟩ : ByteArray) [.string (⟨#[60, 38]⟩ : ByteArray)] from rfl) (Reps.one (show Kd.M Kd.string _ _ _ (⟨#[60, 62]⟩ : ByteArray) [.string (⟨#[60, 62]⟩ : ByteArray)] from rfl) (Reps.one (show Kd.M Kd.string _ _ _ (⟨#[62, 124]⟩ : ByteArray) [.string (⟨#[62, 124]⟩ : ByteArray)] from rfl) (Reps.one (show Kd.M Kd.string _ _ _ (⟨#[38, 38]⟩ : ByteArray) [.string (⟨#[38, 38]⟩ : ByteArray)] from rfl) (Reps.one (show Kd.M Kd.string _ _ _ (⟨#[124, 124]⟩ : ByteArray) [.string (⟨#[124, 124]⟩ : ByteArray)] from rfl) (Reps.one (show Kd.M Kd.string _ _ _ (⟨#[59, 59]⟩ : ByteArray) [.string (⟨#[59, 59]⟩ : ByteArray)] from rfl) (Reps.one (show Kd.M Kd.string _ _ _ (⟨#[59, 38]⟩ : ByteArray) [.string (⟨#[59, 38]⟩ : ByteArray)] from rfl) (Reps.one (show Kd.M Kd.string _ _ _ (⟨#[124, 38]⟩ : ByteArray) [.string (⟨#[124, 38]⟩ : ByteArray)] from rfl) (Reps.none _ _)))))))))))))))); intro v126 w1 ho2 hb hg_ hnew_; clear hg_ hnew_; (first | rw [← Ny125.out] at ho2 | (simp only [Int.reduceToNat] at ho2; rw [← Ny125.out] at ho2)); have n0_ := Aside0.mk (Kd.R_lower ho2 (below_size (by repeat (first | (with_reducible first | exact HB.out | apply below_alloc | apply pw_below_drewN | apply below_drew1) | exact HB.out)))); have n1_ := Aside0.mk (below_step (by repeat (first | (with_reducible first | exact HB.out | apply below_alloc | apply pw_below_drewN | apply below_drew1) | exact HB.out)) hb); clear HB; have HO127 := n0_; have HB := n1_; clear n0_ n1_; clear hb ho2))
  go_ret
  exact ⟨_, by first | rfl | (simp [errW_none, errW_some] <;> rfl) | (simp [*, errW_none, errW_some] <;> rfl), by (with_reducible repeat (first | apply Kd.R_alloc | apply Kd.R_drewN | apply Kd.R_drew)); exact HO127.out, by repeat (first | (with_reducible first | exact HB.out | apply below_alloc | apply pw_below_drewN | apply below_drew1) | exact HB.out)⟩

def opsL : List ByteArray := [(⟨#[60, 60, 45]⟩ : ByteArray), (⟨#[60, 60, 60]⟩ : ByteArray), (⟨#[38, 62]⟩ : ByteArray), (⟨#[60, 60]⟩ : ByteArray), (⟨#[62, 62]⟩ : ByteArray), (⟨#[62, 38]⟩ : ByteArray), (⟨#[60, 38]⟩ : ByteArray), (⟨#[60, 62]⟩ : ByteArray), (⟨#[62, 124]⟩ : ByteArray), (⟨#[38, 38]⟩ : ByteArray), (⟨#[124, 124]⟩ : ByteArray), (⟨#[59, 59]⟩ : ByteArray), (⟨#[59, 38]⟩ : ByteArray), (⟨#[124, 38]⟩ : ByteArray)]
theorem opsL_facts : ∀ k, k < 14 → 2 ≤ (opsL.getD k ByteArray.empty).size ∧ (opsL.getD k ByteArray.empty).size ≤ 3 ∧ asciiB (opsL.getD k ByteArray.empty) = true := by decide

def codes (s : ByteArray) : List Int := s.data.toList.map fun c => (c.toNat : Int)

/-- A row of runes that is read: what is at each place. -/
def RunesAt (w : World) (A : Option Addr) (n : Nat) (xs : List Int) : Prop := xs.length = n ∧ (0 < n → ∃ ad, A = some ad ∧ ∀ j, j < n → w.cell? (ad.add j) = some (.int .i32 (xs.getD j 0)))

/-- Does an operator stand at a place, all its runes unquoted? -/
def opHit (line q : List Int) (at_ : Nat) (s : ByteArray) : Bool := decide (at_ + s.size ≤ line.length) && (((line.drop at_).take s.size == codes s) && allNought ((q.drop at_).take s.size))
def opGo (line q : List Int) (at_ : Nat) : List ByteArray → Int
  | [] => 1
  | s :: l => if opHit line q at_ s = true then (s.size : Int) else opGo line q at_ l

def shwords_operator.f (l0 l1 : List Int) (a2 : Int) : Option Int := if 0 ≤ a2 ∧ a2 ≤ 1000000000000 ∧ l1.length = l0.length ∧ l0.length ≤ 1000000000000 then some (opGo l0 l1 a2.toNat opsL) else none

theorem opGo_step (line q : List Int) (at_ k : Nat) (h : k < opsL.length) : opGo line q at_ (opsL.drop k) = if opHit line q at_ (opsL.getD k ByteArray.empty) = true then ((opsL.getD k ByteArray.empty).size : Int) else opGo line q at_ (opsL.drop (k + 1)) := by
  rw [List.drop_eq_getElem_cons h]
  simp [opGo, List.getD, List.getElem?_eq_getElem h]

theorem encode_one (n : Int) (h0 : 0 ≤ n) (h1 : n < 128) : Utf8.encode n = ⟨#[n.toNat.toUInt8]⟩ := by
  have hv : Utf8.valid n = true := by unfold Utf8.valid; simp only [Bool.or_eq_true, Bool.and_eq_true, decide_eq_true_eq]; omega
  unfold Utf8.encode
  simp only [hv, if_true, show n.toNat < 128 by omega]

theorem encode_two (n : Int) (h : ¬ (0 ≤ n ∧ n < 128)) : 2 ≤ (Utf8.encode n).size := by
  by_cases hv : Utf8.valid n = true
  · refine (encode_facts n hv ?_).1
    unfold Utf8.valid at hv
    rw [Bool.or_eq_true, Bool.and_eq_true, Bool.and_eq_true, decide_eq_true_eq, decide_eq_true_eq, decide_eq_true_eq, decide_eq_true_eq] at hv
    omega
  · have hf : Utf8.valid n = false := by simpa using hv
    unfold Utf8.encode
    rw [hf]
    generalize hg : (if false = true then n.toNat else Utf8.runeError) = c
    obtain rfl : c = 65533 := hg.symm
    decide

theorem codes_length (s : ByteArray) : (codes s).length = s.size := by simp [codes]

theorem runesBytes_cons (n : Int) (ns : List Int) : (runesBytes (n :: ns)).data.toList = (Utf8.encode n).data.toList ++ (runesBytes ns).data.toList := by
  have h : ∀ (ns : List Int) (s : ByteArray), (ns.foldl (fun r n => r ++ Utf8.encode n) s).data.toList = s.data.toList ++ (ns.foldl (fun r n => r ++ Utf8.encode n) ByteArray.empty).data.toList := by
    intro ns
    induction ns with
    | nil => intro s; simp [ByteArray.empty, ByteArray.emptyWithCapacity]; rfl
    | cons m ns ih =>
      intro s
      simp only [List.foldl_cons]
      rw [ih (s ++ Utf8.encode m), ih (ByteArray.empty ++ Utf8.encode m)]
      simp [ByteArray.empty, ByteArray.emptyWithCapacity]; rfl
  unfold runesBytes
  rw [List.foldl_cons, h ns]
  simp [ByteArray.empty, ByteArray.emptyWithCapacity]; rfl

theorem runesBytes_ascii : ∀ (ns : List Int), (∀ n ∈ ns, 0 ≤ n ∧ n < 128) → (runesBytes ns).data.toList = ns.map fun n => n.toNat.toUInt8
  | [], _ => rfl
  | n :: ns, h => by
    have hn := h n (List.mem_cons_self ..)
    rw [runesBytes_cons, encode_one n hn.1 hn.2, runesBytes_ascii ns (fun x hx => h x (List.mem_cons_of_mem _ hx))]
    rfl

theorem runesBytes_len : ∀ (ns : List Int), ns.length ≤ (runesBytes ns).data.toList.length ∧ ((runesBytes ns).data.toList.length = ns.length → ∀ n ∈ ns, 0 ≤ n ∧ n < 128)
  | [] => ⟨by simp, fun _ n hn => by cases hn⟩
  | n :: ns => by
    have ih := runesBytes_len ns
    rw [runesBytes_cons, List.length_append]
    by_cases hn : 0 ≤ n ∧ n < 128
    · rw [encode_one n hn.1 hn.2]
      refine ⟨by simp only [List.length_cons, List.length_nil]; omega, fun h x hx => ?_⟩
      rcases List.mem_cons.1 hx with rfl | hx
      · exact hn
      · exact ih.2 (by simp only [List.length_cons, List.length_nil] at h; omega) x hx
    · have h2 : 2 ≤ (Utf8.encode n).data.toList.length := by simpa using encode_two n hn
      exact ⟨by simp only [List.length_cons]; omega, fun h => by simp only [List.length_cons] at h; omega⟩

theorem toUInt8_back (n : Int) (h : 0 ≤ n ∧ n < 128) : ((n.toNat.toUInt8).toNat : Int) = n := by
  simp [Nat.toUInt8]; omega

theorem runes_match (ys : List Int) (s : ByteArray) (hl : ys.length = s.size) (ha : asciiB s = true) : ((runesBytes ys).toList == s.toList) = (ys == codes s) := by
  rw [ByteArray.toList_eq, ByteArray.toList_eq]
  have hs : s.data.toList.length = s.size := by simp
  rw [Bool.eq_iff_iff, beq_iff_eq, beq_iff_eq]
  constructor
  · intro h
    have h2 := (runesBytes_len ys).2 (by rw [h, hs, hl])
    rw [runesBytes_ascii ys h2] at h
    unfold codes
    rw [← h, List.map_map]
    conv => lhs; rw [← List.map_id ys]
    refine List.map_congr_left fun c hc => ?_
    exact (toUInt8_back c (h2 c hc)).symm
  · intro h
    have hm := ascii_mem ha
    rw [runesBytes_ascii ys (fun n hn => by
      rw [h] at hn
      unfold codes at hn
      obtain ⟨c, hc, rfl⟩ := List.mem_map.1 hn
      have := hm c hc
      omega)]
    rw [h, codes, List.map_map]
    conv => rhs; rw [← List.map_id s.data.toList]
    refine List.map_congr_left fun c _ => ?_
    simp

theorem C_runes {w : World} {A : Option Addr} {n : Nat} {xs : List Int} (h : Kd.C (Kd.int .i32) w A n xs) : RunesAt w A n xs := by
  refine ⟨h.1, fun hn => ?_⟩
  obtain ⟨ad, e, hc⟩ := h.2.2 hn
  refine ⟨ad, e, fun j hj => ?_⟩
  have hl : j < xs.length := by have := h.1; omega
  obtain ⟨c, _, hk, hcell⟩ := hc j xs[j] (List.getElem?_eq_getElem hl)
  obtain rfl : c = [.int .i32 xs[j]] := hk
  have := hcell 0 _ rfl
  simpa [Kd.int, Kd.scalar, List.getD, List.getElem?_eq_getElem hl] using this
theorem C_ints {w : World} {A : Option Addr} {n : Nat} {xs : List Int} (h : Kd.C (Kd.int .i64) w A n xs) : IntsAt w A n xs := by
  refine ⟨h.1, fun hn => ?_⟩
  obtain ⟨ad, e, hc⟩ := h.2.2 hn
  refine ⟨ad, e, fun j hj => ?_⟩
  have hl : j < xs.length := by have := h.1; omega
  obtain ⟨c, _, hk, hcell⟩ := hc j xs[j] (List.getElem?_eq_getElem hl)
  obtain rfl : c = [.int .i64 xs[j]] := hk
  have := hcell 0 _ rfl
  simpa [Kd.int, Kd.scalar, List.getD, List.getElem?_eq_getElem hl] using this
theorem C_strs {w : World} {A : Option Addr} {n : Nat} {xs : List ByteArray} (h : Kd.C Kd.string w A n xs) (hn : 0 < n) : ∃ ad, A = some ad ∧ ∀ j, j < n → w.cell? (ad.add j) = some (.string (xs.getD j ByteArray.empty)) := by
  obtain ⟨ad, e, hc⟩ := h.2.2 hn
  refine ⟨ad, e, fun j hj => ?_⟩
  have hl : j < xs.length := by have := h.1; omega
  obtain ⟨c, _, hk, hcell⟩ := hc j xs[j] (List.getElem?_eq_getElem hl)
  obtain rfl : c = [.string xs[j]] := hk
  have := hcell 0 _ rfl
  simpa [Kd.string, Kd.scalar, List.getD, List.getElem?_eq_getElem hl] using this

theorem RunesAt.below {w w1 : World} {A : Option Addr} {n : Nat} {xs : List Int} (h : RunesAt w A n xs) (hb : Below w.heap.size w w1) : RunesAt w1 A n xs :=
  ⟨h.1, fun hn => by
    obtain ⟨ad, e, hc⟩ := h.2 hn
    exact ⟨ad, e, fun j hj => (hb.cell (World.block_lt_of_cell? _ _ (hc j hj))).trans (hc j hj)⟩⟩
theorem IntsAt.below {w w1 : World} {A : Option Addr} {n : Nat} {xs : List Int} (h : IntsAt w A n xs) (hb : Below w.heap.size w w1) : IntsAt w1 A n xs :=
  ⟨h.1, fun hn => by
    obtain ⟨ad, e, hc⟩ := h.2 hn
    exact ⟨ad, e, fun j hj => (hb.cell (World.block_lt_of_cell? _ _ (hc j hj))).trans (hc j hj)⟩⟩

/-- The runes from a place on, as a text. -/
theorem cut_text {w : World} {ad : Addr} {xs : List Int} (h : ∀ j, j < xs.length → w.cell? (ad.add j) = some (.int .i32 (xs.getD j 0))) {a n c : Nat} (hn : a + n ≤ xs.length) (m : Nat) :
    (convert 22 9 (.slice (some (ad.add a)) n c)).run Try.prog (w.drewN m) = .ok (.string (runesBytes ((xs.drop a).take n))) (w.drewN m) := by
  have hc : ∀ j, j < ((xs.drop a).take n).length → (w.drewN m).cell? ((ad.add a).add j) = some (.int .i32 (((xs.drop a).take n).getD j 0)) := by
    intro j hj
    rw [List.length_take, List.length_drop] at hj
    rw [addr_add_add]
    have := h (a + j) (by omega)
    rw [show (w.drewN m).cell? (ad.add (a + j)) = w.cell? (ad.add (a + j)) from rfl, this]
    simp [List.getD, List.getElem?_take, List.getElem?_drop, show j < n by omega]
  have := run_convert_runes (w.drewN m) 22 9 21 (ad.add a) n c ((xs.drop a).take n) (by rw [List.length_take, List.length_drop]; omega) Try.underlying22 Try.underlying21 Try.underlying9 hc
  rw [this, List.take_take, Nat.min_self]

set_option maxHeartbeats 8000000 in
set_option maxRecDepth 100000 in
theorem operator_any (A0 A1 : Option Addr) (c0 c1 : Nat) (l0 l1 : List Int) (p : Nat) (w : World) (h0 : RunesAt w A0 l0.length l0) (h1 : IntsAt w A1 l1.length l1) (hc0 : l0.length ≤ c0) (hc1 : l1.length ≤ c1)
    (hp : p ≤ 1000000000000) (hl : l0.length ≤ l1.length) (hl2 : l1.length ≤ l0.length) (hs : l0.length ≤ 1000000000000) :
    Calls Try.prog 30 #[.slice A0 l0.length c0, .slice A1 l1.length c1, .int .i64 (p : Int)] w fun e w' => e = .returned (.int .i64 (opGo l0 l1 p opsL)) ∧ Below w.heap.size w w' := by
  go_enter Try.func30, Try.ntmps30
  go_wp2_with (go_at_call 45; refine (shwords_operators.calls opsL _ rfl).mono ?_; rintro e W ⟨v, rfl, hR, hb⟩; obtain ⟨Ao, co, rfl, hlo, hCo⟩ := Kd.R_reads hR; clear hR)
  obtain ⟨ao, rfl, hops⟩ := C_strs hCo (by decide)
  clear hCo
  have h0W := h0.below hb
  have h1W := h1.below hb
  clear h0 h1
  go_loopw [8, 9, 12] (fun _ _ i wr => ∃ k m : Nat, k ≤ 14 ∧ i = .int .i64 k ∧ wr = W.drewN m ∧ Hid (opGo l0 l1 p (opsL.drop k) = opGo l0 l1 p opsL)) (fun _ _ i _ => 14 - (intOf i).toNat)
  case atStart => exact ⟨0, 0, by omega, rfl, rfl, rfl⟩
  case round =>
    obtain ⟨k, m, hk, rfl, rfl, HG⟩ := hrel
    by_cases hlt : k < 14
    · obtain ⟨f1, f2, f3⟩ := opsL_facts k hlt
      have hop := hops k hlt
      have hst := opGo_step l0 l1 p k hlt
      generalize opsL.getD k ByteArray.empty = s at f1 f2 f3 hop hst
      have HST := Lib.hid hst
      have HOPS := Lib.hid hops
      clear hst hops
      have hk14 : k < opsL.length := hlt
      by_cases hA : p + s.size ≤ l0.length
      · obtain ⟨ad, rfl, hcells⟩ := h0W.2 (by omega)
        have hcp : ¬ c0 = p := by omega
        have hcv := fun c m => cut_text hcells (a := p) (n := s.size) (c := c) hA m
        have hm := runes_match ((l0.drop p).take s.size) s (by rw [List.length_take, List.length_drop]; omega) f3
        generalize ht : runesBytes ((l0.drop p).take s.size) = t at hcv hm
        clear ht hcells
        have hAi : (p : Int) + (s.size : Int) ≤ (l0.length : Int) := by omega
        by_cases hM : ((l0.drop p).take s.size == codes s) = true
        · rw [hM] at hm
          have cf := fun W1 (hW1 : IntsAt W1 A1 l1.length l1) => free_any A1 c1 l1 (p : Int) ((p : Int) + (s.size : Int)) W1 hW1 hc1 (by omega) (by omega) (by omega) (by omega)
          have HM := Lib.hid hM
          clear hM
          have hy : allNought (List.take (((p : Int) + (s.size : Int)).toNat - ((p : Int)).toNat) (List.drop ((p : Int)).toNat l1)) = allNought ((l1.drop p).take s.size) := by
            rw [show ((p : Int) + (s.size : Int)).toNat - ((p : Int)).toNat = s.size by omega, Int.toNat_natCast]
          have cf2 := fun m => (cf (W.drewN m) h1W)
          rw [hy] at cf2
          clear cf
          have hH : opHit l0 l1 p s = allNought ((l1.drop p).take s.size) := by
            unfold opHit
            rw [decide_eq_true hA, HM.out, Bool.true_and, Bool.true_and]
          generalize hz : allNought ((l1.drop p).take s.size) = z at hH cf2
          have HH := Lib.hid hH
          clear hH hy hz
          cases z
          · go_wp2_with (go_at_call 46; refine (cf2 _).mono ?_; rintro e w' ⟨rfl, rfl⟩)
            refine ⟨⟨k + 1, m, by omega, by go_num, rfl, ?_⟩, by simp [intOf]; omega⟩
            have := HST.out
            rw [HH.out, if_neg (by decide)] at this
            exact this.symm.trans HG.out
          · go_wp2_with (go_at_call 46; refine (cf2 _).mono ?_; rintro e w' ⟨rfl, rfl⟩)
            go_ret
            refine ⟨?_, pw_below_drewN hb _⟩
            have := HST.out
            rw [HH.out, if_pos rfl] at this
            rw [← HG.out, this]
            rfl
        · have hm' : (t.toList == s.toList) = false := by rw [hm]; simpa using hM
          clear hm
          have hH : opHit l0 l1 p s = false := by
            unfold opHit
            rw [show ((l0.drop p).take s.size == codes s) = false by simpa using hM]
            simp
          have HH := Lib.hid hH
          clear hM hH
          go_wp2_with fail
          refine ⟨⟨k + 1, m, by omega, by go_num, rfl, ?_⟩, by simp [intOf]; omega⟩
          have := HST.out
          rw [HH.out, if_neg (by decide)] at this
          exact this.symm.trans HG.out
      · have hAi : ¬ (p : Int) + (s.size : Int) ≤ (l0.length : Int) := by omega
        have hH : opHit l0 l1 p s = false := by
          unfold opHit
          rw [decide_eq_false hA]
          simp
        have HH := Lib.hid hH
        clear hA hH
        go_wp2_with fail
        refine ⟨⟨k + 1, m, by omega, by go_num, rfl, ?_⟩, by simp [intOf]; omega⟩
        have := HST.out
        rw [HH.out, if_neg (by decide)] at this
        exact this.symm.trans HG.out
    · have hk2 : ¬ k < opsL.length := hlt
      obtain rfl : k = 14 := by omega
      have HOPS := Lib.hid hops
      clear hops
      go_wp2_with fail
      go_ret
      refine ⟨?_, pw_below_drewN hb _⟩
      rw [← HG.out]
      rfl

theorem shwords_operator.calls (A0 : Option Addr) (c0 : Nat) (l0 : List Int) (A1 : Option Addr) (c1 : Nat) (l1 : List Int) (a2 : Int) (r : Int) (w : World) (hr0 : Kd.C (Kd.int .i32) w A0 l0.length l0) (hc0 : l0.length ≤ c0)
    (hr1 : Kd.C (Kd.int .i64) w A1 l1.length l1) (hc1 : l1.length ≤ c1) (h : shwords_operator.f l0 l1 a2 = some r) :
    Calls Try.prog 30 #[.slice A0 l0.length c0, .slice A1 l1.length c1, .int .i64 a2] w fun e w' => e = .returned (.int .i64 r) ∧ Below w.heap.size w w' := by
  unfold shwords_operator.f at h
  by_cases hc : 0 ≤ a2 ∧ a2 ≤ 1000000000000 ∧ l1.length = l0.length ∧ l0.length ≤ 1000000000000
  · rw [if_pos hc] at h
    obtain ⟨h0, h1, h2, h3⟩ := hc
    obtain rfl := Option.some.inj h
    obtain ⟨p, rfl⟩ := Int.eq_ofNat_of_zero_le h0
    simp only [Int.toNat_natCast]
    exact operator_any A0 A1 c0 c1 l0 l1 p w (C_runes hr0) (C_ints hr1) hc0 hc1 (by omega) (by omega) (by omega) h3
  · rw [if_neg hc] at h
    cases h
end Go.Proofs.Ytpebdkchdgaeoaa
