/-
  The walk of HistFinds.
-/
import Derived.Test.YtbjdjbhmafmnbaaFC
import Derived.Test.YtbjdjbhmafmnbaaMW
namespace Go.Proofs.Ytbjdjbhmafmnbaa
open Go.RowKit Go.Proofs.YtbjdjbhmafmnbaaW.PrintWords Go.Proofs.YtbjdjbhmafmnbaaW.PrintLast Go.Proofs.YtbjdjbhmafmnbaaW.PrintMore Go.Proofs.Ytbjdjbhmafmnbaa.PAll
set_option linter.unusedVariables false
set_option linter.unusedSimpArgs false
theorem has_false {w : World} {B g : Nat} {v : Value} {q : Hs} (hl : HL w B g v q) (hq : q.base ≠ 0) {m : Int} (hm : w.cell? ⟨0, 0, none⟩ = some (.int .i64 m)) (k : Nat) (hk : k < q.lines.length) (hsz : q.lines[k].f0.size < 4294967281) (t : ByteArray) (c : Bool) {g11 g9 g7 : Nat}
    (h11 : w.heap[g11]? = some (.cells #[.pointer (some ⟨g, 0, none⟩)] 23 (0, 0))) (h9 : w.heap[g9]? = some (.cells #[.bool c] 4 (0, 0))) (h7 : w.heap[g7]? = some (.cells #[.string t] 9 (0, 0))) (back : Bool) (hno : foundF q.lines[k].f0 t back c < 0) :
    Calls Try.prog 29 #[.int .i64 (k : Int), .pointer (some ⟨g11, 0, none⟩), .pointer (some ⟨g9, 0, none⟩), .pointer (some ⟨g7, 0, none⟩)] w fun e w' => e = .returned (.bool false) ∧ Below w.heap.size w w' := by
  refine (has_calls hl hq hm k hk hsz t c h11 h9 h7).mono ?_
  rintro e w' ⟨rfl, hb⟩
  have h0 : decide (0 ≤ foundF q.lines[k].f0 t back c) = false := by simp; omega
  refine ⟨?_, hb⟩
  rw [foundF_has _ _ back, h0]
attribute [local go_sem] Oper.semAt_some
attribute [local go_sem] max2_int min2_int max_two min_two max_three min_three max_four min_four
set_option maxRecDepth 100000 in
set_option maxHeartbeats 4000000 in
theorem walkFinds (A0 : Option Addr) (c0 : Nat) (l0 : List S36) (i : Int) (t : ByteArray) (b c : Bool) {w : World} {m : Int} (hmx : w.cell? ⟨0, 0, none⟩ = some (.int .i64 m))
    (hr0 : Kd.C k36 w A0 l0.length l0) (hc0 : l0.length ≤ c0) (hl0 : l0.length ≤ 1048576) :
    Calls Try.prog 6 #[.slice A0 l0.length c0, .int .i64 i, .string t, .bool b, .bool c] w fun e w' => e = .returned (.bool true) ∧ Below w.heap.size w w' := by
  by_cases hm : mayF l0 = 0
  · have hq0 : Hs.add ⟨[], 1, 4096⟩ l0 = Hs.of 4096 l0 := by
      have := Hs.of_add 4096 [] l0
      rwa [Hs.of_nil, List.nil_append] at this
    have hlen := Hs.of_len 4096 l0
    have hb0 : 0 < (Hs.of 4096 l0).base := by simp only [Hs.of]; omega
    have hsz : ∀ x ∈ (Hs.of 4096 l0).lines, x.f0.size ≤ 16384 := fun x hx => may_mem hm x (List.mem_of_mem_drop hx)
    have HSZ := Aside0.mk hsz
    clear hsz
    generalize Hs.of 4096 l0 = Q at HSZ hq0 hlen hb0
    have hlen' : Q.lines.length ≤ 4096 := by omega
    clear hlen
    have hbne : Q.base ≠ 0 := by omega
    have hr0' := Aside0.mk hr0
    have HMX := Aside0.mk hmx
    clear hr0 hmx
    have hA := below_alloc (below_alloc (Below.refl w.heap.size w) (.cells #[.string t] 9)) (.cells #[.bool c] 4)
    have h7a := blk_alloc (blk_new w (.cells #[.string t] 9)) (.cells #[.bool c] 4)
    have h9a : ((w.alloc (.cells #[.string t] 9)).alloc (.cells #[.bool c] 4)).heap[w.heap.size + 1]? = some (.cells #[.bool c] 4 (0, 0)) := by
      have := blk_new (w.alloc (.cells #[.string t] 9)) (.cells #[.bool c] 4)
      rwa [World.size_alloc] at this
    go_enter Try.func6, Try.ntmps6
    go_wp2_with (first
      | (go_at_call 16; go_loud (have FC := (from_calls 4096 (by decide) (by decide) A0 c0 l0 _ (Kd.C_below hr0'.out hA) hc0 (by omega) hm); rw [hq0] at FC; refine FC.mono ?_; clear FC; rintro e w2 ⟨gh, vh, rfl, hgh, hH2, hb2⟩; have HB2 := Aside0.mk (below_step hA hb2); have h72 := blk_below h7a hb2; have h92 := blk_below h9a hb2))
      | ((with_reducible refine gate_dst (N := 11) rfl ?_); refine box_event ?hg (N := 11) ?hd (cs := #[.pointer none]) (t := 23) ?hr ?_; (case hd => rfl); (case hg => rfl); (case hr => first | (go_simp; done) | (go_simp; rfl)); intro g11 hg w3 hbox11 hb3; have hle11 := Aside0.mk (Nat.le_of_eq hg.symm); clear hg; have hk11 : w3.cell? ⟨g11, 0, none⟩ = some (.pointer none) := (blk_cell hbox11 0).trans rfl; have hf11 := blk_frozen hbox11 0)
      | (go_at_call 10; go_loud (refine (begun_calls _).mono ?_; rintro e w4 ⟨rfl, hb4⟩; have hb34 := below_step (below_set (j := 0) (v := .pointer (some ⟨gh, 0, none⟩)) hb3 hle11.out) hb4; have h11 := blk_below (blk_put hbox11 0 (.pointer (some ⟨gh, 0, none⟩)) rfl) hb4; have h7 := blk_below h72 hb34; have h9 := blk_below h92 hb34; have hH := hH2.below hb34; have HB := Aside0.mk (below_step HB2.out hb34); have k11 : w4.cell? ⟨g11, 0, none⟩ = some (.pointer (some ⟨gh, 0, none⟩)) := (blk_cell h11 0).trans rfl; have k7 : w4.cell? ⟨w.heap.size, 0, none⟩ = some (.string t) := (blk_cell h7 0).trans rfl; have k9 : w4.cell? ⟨w.heap.size + 1, 0, none⟩ = some (.bool c) := (blk_cell h9 0).trans rfl)))
    have hmw : w4.cell? ⟨0, 0, none⟩ = some (.int .i64 m) := (HB.out.cell (World.block_lt_of_cell? w _ HMX.out)).trans HMX.out
    have hsz' : ∀ x ∈ Q.lines, x.f0.size < 4294967281 := fun x hx => by have := HSZ.out x hx; omega
    have HSZ' := Aside0.mk hsz'
    have hHc := hH
    clear hHc
    clear hsz' h7a h9a hA hb2 h72 h92 hbox11 hb3 hk11 hf11 hH2 hb4 hb34 hle11 HB2
    cases b
    · refine (search_forth hH hbne (by omega) hmw HSZ'.out i t c).mono ?_
      rintro e w' ⟨⟨r, rfl, hS⟩, rfl⟩
      rcases hS with ⟨k0, hk0, rfl, ha, hfr, hbt⟩ | ⟨rfl, hbt⟩
      · have hat := foundF_at Q.lines[k0].f0 t false c ha
        have AC := Aside0.mk (at_calls hH hbne k0 hk0)
        have HBT := Aside0.mk hbt
        clear hbt
        generalize foundF Q.lines[k0].f0 t false c = a at ha hat
        generalize Q.lines[k0] = x at hat AC
        simp only [S36.v] at AC
        obtain ⟨hat1, hat2, hat3⟩ := hat
        have hle : a ≤ (x.f0.size : Int) := by rw [show x.f0.data.toList.length = x.f0.size by rw [Array.length_toList]; rfl] at hat1; exact hat1
        have hd1 : decide (a < 0) = false := by simp; omega
        have hd2 : decide ((x.f0.size : Int) < a) = false := by simp; omega
        have HP := Aside0.mk (fun W : World => (Try.strings_HasPrefix (x.f0.extract a.toNat x.f0.size) t W).mono (fun e w' h => by rw [Lib.extract_to_end, hat2] at h; exact h))
        have HA0 := Aside0.mk hat3
        clear hat1 hat2 hat3
        go_wp2_with (first
          | (go_at_call 21; go_loud (refine AC.out.mono ?_; rintro e w5 ⟨rfl, hb5⟩; have hal := below_alloc hb5 (.cells #[.string x.f0, .int .i64 x.f1] 36); have n9 : (w5.alloc (.cells #[.string x.f0, .int .i64 x.f1] 36)).cell? ⟨w.heap.size + 1, 0, none⟩ = some (.bool c) := (blk_cell (blk_below h9 hal) 0).trans rfl; have n7 : (w5.alloc (.cells #[.string x.f0, .int .i64 x.f1] 36)).cell? ⟨w.heap.size, 0, none⟩ = some (.string t) := (blk_cell (blk_below h7 hal) 0).trans rfl; have nx : (w5.alloc (.cells #[.string x.f0, .int .i64 x.f1] 36)).cell? ⟨w5.heap.size, 0, none⟩ = some (.string x.f0) := (blk_cell (blk_new w5 (.cells #[.string x.f0, .int .i64 x.f1] 36)) 0).trans rfl)))
        generalize w5.alloc (.cells #[.string x.f0, .int .i64 x.f1] 36) = w6 at hal n9 n7 nx
        obtain rfl | rfl : c = false ∨ c = true := by cases c <;> simp
        · skip
          go_quiet ((go_at_call 30; exact Calls.quiet_of_same (HP.out _)))
          have HBW := Aside0.mk (pw_below_drewN hal nq)
          clear hd1 hd2 n9 n7 nx hal hb5 HP AC HA0 ha hle
          generalize w6.drewN nq = W at HBW ⊢
          have HMW := Aside0.mk ((HBW.out.cell (World.block_lt_of_cell? w4 _ hmw)).trans hmw)
          have HLW := hH.below HBW.out
          have gW11 := blk_below h11 HBW.out
          have kW11 : W.cell? ⟨g11, 0, none⟩ = some (.pointer (some ⟨gh, 0, none⟩)) := (blk_cell gW11 0).trans rfl
          have HS := Aside0.mk (fun (wr : World) (hr : Below W.heap.size W wr) (j : Nat) (hj : j < Q.lines.length) (h : foundF Q.lines[j].f0 t false false < 0) => has_false (HLW.below hr) hbne ((hr.cell (World.block_lt_of_cell? W _ (HMW.out))).trans HMW.out) j hj (HSZ'.out _ (List.getElem_mem hj)) t false (blk_below gW11 hr) (blk_below (blk_below h9 HBW.out) hr) (blk_below (blk_below h7 HBW.out) hr) false h)
          clear gW11
          go_wp2_with (go_at_call 12; refine (len_calls HLW hbne).mono ?_; rintro e w' ⟨rfl, rfl⟩)
          go_loopw [85] (fun x wr => ∃ j : Nat, x = .int .i64 (j : Int) ∧ j ≤ Q.lines.length ∧ Aside0 (Below W.heap.size W wr)) (fun x wr => Q.lines.length - (intOf x).toNat)
          case atStart => exact ⟨0, rfl, Nat.zero_le _, ⟨Below.refl _ _⟩⟩
          case round =>
            obtain ⟨j, rfl, hj, HBR⟩ := hrel
            by_cases hlt : j < Q.lines.length
            · have HJ := Aside0.mk (fun h => HS.out wr HBR.out j hlt h)
              by_cases q1 : i ≤ (j : Int)
              · by_cases q2 : j < k0
                · skip
                  have HC := Aside0.mk (HJ.out (HBT.out j hlt q1 q2))
                  clear HJ HS
                  go_wp2_with (go_at_call 29; refine HC.out.mono ?_; rintro e w' ⟨rfl, hb'⟩)
                  go_roundw
                  case rel => exact ⟨j + 1, by simp, by omega, ⟨below_step HBR.out hb'⟩⟩
                  case measure => simp [intOf]; omega
                · skip
                  clear HJ HS
                  go_wp2
                  go_roundw
                  case rel => exact ⟨j + 1, by simp, by omega, HBR⟩
                  case measure => simp [intOf]; omega
              · skip
                clear HJ HS
                go_wp2
                go_roundw
                case rel => exact ⟨j + 1, by simp, by omega, HBR⟩
                case measure => simp [intOf]; omega
            · obtain rfl : j = Q.lines.length := by omega
              clear HS
              go_wp2
              go_ret
              exact ⟨rfl, below_step (below_step HB.out HBW.out) HBR.out⟩
        · have hz : (a != 0) = false := by simpa using HA0.out rfl
          go_quiet ((go_at_call 30; exact Calls.quiet_of_same (HP.out _)))
          have HBW := Aside0.mk (pw_below_drewN hal nq)
          clear hd1 hd2 n9 n7 nx hal hb5 HP AC HA0 ha hle hz
          generalize w6.drewN nq = W at HBW ⊢
          have HMW := Aside0.mk ((HBW.out.cell (World.block_lt_of_cell? w4 _ hmw)).trans hmw)
          have HLW := hH.below HBW.out
          have gW11 := blk_below h11 HBW.out
          have kW11 : W.cell? ⟨g11, 0, none⟩ = some (.pointer (some ⟨gh, 0, none⟩)) := (blk_cell gW11 0).trans rfl
          have HS := Aside0.mk (fun (wr : World) (hr : Below W.heap.size W wr) (j : Nat) (hj : j < Q.lines.length) (h : foundF Q.lines[j].f0 t false true < 0) => has_false (HLW.below hr) hbne ((hr.cell (World.block_lt_of_cell? W _ (HMW.out))).trans HMW.out) j hj (HSZ'.out _ (List.getElem_mem hj)) t true (blk_below gW11 hr) (blk_below (blk_below h9 HBW.out) hr) (blk_below (blk_below h7 HBW.out) hr) false h)
          clear gW11
          go_wp2_with (go_at_call 12; refine (len_calls HLW hbne).mono ?_; rintro e w' ⟨rfl, rfl⟩)
          go_loopw [85] (fun x wr => ∃ j : Nat, x = .int .i64 (j : Int) ∧ j ≤ Q.lines.length ∧ Aside0 (Below W.heap.size W wr)) (fun x wr => Q.lines.length - (intOf x).toNat)
          case atStart => exact ⟨0, rfl, Nat.zero_le _, ⟨Below.refl _ _⟩⟩
          case round =>
            obtain ⟨j, rfl, hj, HBR⟩ := hrel
            by_cases hlt : j < Q.lines.length
            · have HJ := Aside0.mk (fun h => HS.out wr HBR.out j hlt h)
              by_cases q1 : i ≤ (j : Int)
              · by_cases q2 : j < k0
                · skip
                  have HC := Aside0.mk (HJ.out (HBT.out j hlt q1 q2))
                  clear HJ HS
                  go_wp2_with (go_at_call 29; refine HC.out.mono ?_; rintro e w' ⟨rfl, hb'⟩)
                  go_roundw
                  case rel => exact ⟨j + 1, by simp, by omega, ⟨below_step HBR.out hb'⟩⟩
                  case measure => simp [intOf]; omega
                · skip
                  clear HJ HS
                  go_wp2
                  go_roundw
                  case rel => exact ⟨j + 1, by simp, by omega, HBR⟩
                  case measure => simp [intOf]; omega
              · skip
                clear HJ HS
                go_wp2
                go_roundw
                case rel => exact ⟨j + 1, by simp, by omega, HBR⟩
                case measure => simp [intOf]; omega
            · obtain rfl : j = Q.lines.length := by omega
              clear HS
              go_wp2
              go_ret
              exact ⟨rfl, below_step (below_step HB.out HBW.out) HBR.out⟩
      · have HBT := Aside0.mk hbt
        clear hbt
        obtain ⟨W, hW⟩ : ∃ W, W = w4 := ⟨_, rfl⟩
        have HBW : Aside0 (Below w4.heap.size w4 W) := ⟨by rw [hW]; exact Below.refl _ _⟩
        have HMW : Aside0 (W.cell? ⟨0, 0, none⟩ = some (.int .i64 m)) := ⟨by rw [hW]; exact hmw⟩
        rw [← hW]
        clear hW
        have HLW := hH.below HBW.out
        have gW11 := blk_below h11 HBW.out
        have kW11 : W.cell? ⟨g11, 0, none⟩ = some (.pointer (some ⟨gh, 0, none⟩)) := (blk_cell gW11 0).trans rfl
        have HS := Aside0.mk (fun (wr : World) (hr : Below W.heap.size W wr) (j : Nat) (hj : j < Q.lines.length) (h : foundF Q.lines[j].f0 t false c < 0) => has_false (HLW.below hr) hbne ((hr.cell (World.block_lt_of_cell? W _ (HMW.out))).trans HMW.out) j hj (HSZ'.out _ (List.getElem_mem hj)) t c (blk_below gW11 hr) (blk_below (blk_below h9 HBW.out) hr) (blk_below (blk_below h7 HBW.out) hr) false h)
        clear gW11
        go_wp2_with (go_at_call 12; refine (len_calls HLW hbne).mono ?_; rintro e w' ⟨rfl, rfl⟩)
        go_loopw [85] (fun x wr => ∃ j : Nat, x = .int .i64 (j : Int) ∧ j ≤ Q.lines.length ∧ Aside0 (Below W.heap.size W wr)) (fun x wr => Q.lines.length - (intOf x).toNat)
        case atStart => exact ⟨0, rfl, Nat.zero_le _, ⟨Below.refl _ _⟩⟩
        case round =>
          obtain ⟨j, rfl, hj, HBR⟩ := hrel
          by_cases hlt : j < Q.lines.length
          · have HJ := Aside0.mk (fun h => HS.out wr HBR.out j hlt h)
            by_cases q1 : i ≤ (j : Int)
            · skip
              have HC := Aside0.mk (HJ.out (HBT.out j hlt q1))
              clear HJ HS
              go_wp2_with (go_at_call 29; refine HC.out.mono ?_; rintro e w' ⟨rfl, hb'⟩)
              go_roundw
              case rel => exact ⟨j + 1, by simp, by omega, ⟨below_step HBR.out hb'⟩⟩
              case measure => simp [intOf]; omega
            · skip
              clear HJ HS
              go_wp2
              go_roundw
              case rel => exact ⟨j + 1, by simp, by omega, HBR⟩
              case measure => simp [intOf]; omega
          · obtain rfl : j = Q.lines.length := by omega
            clear HS
            go_wp2
            go_ret
            exact ⟨rfl, below_step (below_step HB.out HBW.out) HBR.out⟩
    · refine (search_back hH hbne (by omega) hmw HSZ'.out i t c).mono ?_
      rintro e w' ⟨⟨r, rfl, hS⟩, rfl⟩
      rcases hS with ⟨k0, hk0, rfl, ha, hfr, hbt⟩ | ⟨rfl, hbt⟩
      · have hat := foundF_at Q.lines[k0].f0 t true c ha
        have AC := Aside0.mk (at_calls hH hbne k0 hk0)
        have HBT := Aside0.mk hbt
        clear hbt
        generalize foundF Q.lines[k0].f0 t true c = a at ha hat
        generalize Q.lines[k0] = x at hat AC
        simp only [S36.v] at AC
        obtain ⟨hat1, hat2, hat3⟩ := hat
        have hle : a ≤ (x.f0.size : Int) := by rw [show x.f0.data.toList.length = x.f0.size by rw [Array.length_toList]; rfl] at hat1; exact hat1
        have hd1 : decide (a < 0) = false := by simp; omega
        have hd2 : decide ((x.f0.size : Int) < a) = false := by simp; omega
        have HP := Aside0.mk (fun W : World => (Try.strings_HasPrefix (x.f0.extract a.toNat x.f0.size) t W).mono (fun e w' h => by rw [Lib.extract_to_end, hat2] at h; exact h))
        have HA0 := Aside0.mk hat3
        clear hat1 hat2 hat3
        go_wp2_with (first
          | (go_at_call 21; go_loud (refine AC.out.mono ?_; rintro e w5 ⟨rfl, hb5⟩; have hal := below_alloc hb5 (.cells #[.string x.f0, .int .i64 x.f1] 36); have n9 : (w5.alloc (.cells #[.string x.f0, .int .i64 x.f1] 36)).cell? ⟨w.heap.size + 1, 0, none⟩ = some (.bool c) := (blk_cell (blk_below h9 hal) 0).trans rfl; have n7 : (w5.alloc (.cells #[.string x.f0, .int .i64 x.f1] 36)).cell? ⟨w.heap.size, 0, none⟩ = some (.string t) := (blk_cell (blk_below h7 hal) 0).trans rfl; have nx : (w5.alloc (.cells #[.string x.f0, .int .i64 x.f1] 36)).cell? ⟨w5.heap.size, 0, none⟩ = some (.string x.f0) := (blk_cell (blk_new w5 (.cells #[.string x.f0, .int .i64 x.f1] 36)) 0).trans rfl)))
        generalize w5.alloc (.cells #[.string x.f0, .int .i64 x.f1] 36) = w6 at hal n9 n7 nx
        obtain rfl | rfl : c = false ∨ c = true := by cases c <;> simp
        · skip
          go_quiet ((go_at_call 30; exact Calls.quiet_of_same (HP.out _)))
          have HBW := Aside0.mk (pw_below_drewN hal nq)
          clear hd1 hd2 n9 n7 nx hal hb5 HP AC HA0 ha hle
          generalize w6.drewN nq = W at HBW ⊢
          have HMW := Aside0.mk ((HBW.out.cell (World.block_lt_of_cell? w4 _ hmw)).trans hmw)
          have HLW := hH.below HBW.out
          have gW11 := blk_below h11 HBW.out
          have kW11 : W.cell? ⟨g11, 0, none⟩ = some (.pointer (some ⟨gh, 0, none⟩)) := (blk_cell gW11 0).trans rfl
          have HS := Aside0.mk (fun (wr : World) (hr : Below W.heap.size W wr) (j : Nat) (hj : j < Q.lines.length) (h : foundF Q.lines[j].f0 t true false < 0) => has_false (HLW.below hr) hbne ((hr.cell (World.block_lt_of_cell? W _ (HMW.out))).trans HMW.out) j hj (HSZ'.out _ (List.getElem_mem hj)) t false (blk_below gW11 hr) (blk_below (blk_below h9 HBW.out) hr) (blk_below (blk_below h7 HBW.out) hr) true h)
          clear gW11
          go_wp2_with (go_at_call 12; refine (len_calls HLW hbne).mono ?_; rintro e w' ⟨rfl, rfl⟩)
          go_loopw [85] (fun x wr => ∃ j : Nat, x = .int .i64 (j : Int) ∧ j ≤ Q.lines.length ∧ Aside0 (Below W.heap.size W wr)) (fun x wr => Q.lines.length - (intOf x).toNat)
          case atStart => exact ⟨0, rfl, Nat.zero_le _, ⟨Below.refl _ _⟩⟩
          case round =>
            obtain ⟨j, rfl, hj, HBR⟩ := hrel
            by_cases hlt : j < Q.lines.length
            · have HJ := Aside0.mk (fun h => HS.out wr HBR.out j hlt h)
              by_cases q1 : (j : Int) ≤ i
              · by_cases q2 : k0 < j
                · skip
                  have HC := Aside0.mk (HJ.out (HBT.out j hlt q1 q2))
                  clear HJ HS
                  go_wp2_with (go_at_call 29; refine HC.out.mono ?_; rintro e w' ⟨rfl, hb'⟩)
                  go_roundw
                  case rel => exact ⟨j + 1, by simp, by omega, ⟨below_step HBR.out hb'⟩⟩
                  case measure => simp [intOf]; omega
                · skip
                  clear HJ HS
                  go_wp2
                  go_roundw
                  case rel => exact ⟨j + 1, by simp, by omega, HBR⟩
                  case measure => simp [intOf]; omega
              · skip
                clear HJ HS
                go_wp2
                go_roundw
                case rel => exact ⟨j + 1, by simp, by omega, HBR⟩
                case measure => simp [intOf]; omega
            · obtain rfl : j = Q.lines.length := by omega
              clear HS
              go_wp2
              go_ret
              exact ⟨rfl, below_step (below_step HB.out HBW.out) HBR.out⟩
        · have hz : (a != 0) = false := by simpa using HA0.out rfl
          go_quiet ((go_at_call 30; exact Calls.quiet_of_same (HP.out _)))
          have HBW := Aside0.mk (pw_below_drewN hal nq)
          clear hd1 hd2 n9 n7 nx hal hb5 HP AC HA0 ha hle hz
          generalize w6.drewN nq = W at HBW ⊢
          have HMW := Aside0.mk ((HBW.out.cell (World.block_lt_of_cell? w4 _ hmw)).trans hmw)
          have HLW := hH.below HBW.out
          have gW11 := blk_below h11 HBW.out
          have kW11 : W.cell? ⟨g11, 0, none⟩ = some (.pointer (some ⟨gh, 0, none⟩)) := (blk_cell gW11 0).trans rfl
          have HS := Aside0.mk (fun (wr : World) (hr : Below W.heap.size W wr) (j : Nat) (hj : j < Q.lines.length) (h : foundF Q.lines[j].f0 t true true < 0) => has_false (HLW.below hr) hbne ((hr.cell (World.block_lt_of_cell? W _ (HMW.out))).trans HMW.out) j hj (HSZ'.out _ (List.getElem_mem hj)) t true (blk_below gW11 hr) (blk_below (blk_below h9 HBW.out) hr) (blk_below (blk_below h7 HBW.out) hr) true h)
          clear gW11
          go_wp2_with (go_at_call 12; refine (len_calls HLW hbne).mono ?_; rintro e w' ⟨rfl, rfl⟩)
          go_loopw [85] (fun x wr => ∃ j : Nat, x = .int .i64 (j : Int) ∧ j ≤ Q.lines.length ∧ Aside0 (Below W.heap.size W wr)) (fun x wr => Q.lines.length - (intOf x).toNat)
          case atStart => exact ⟨0, rfl, Nat.zero_le _, ⟨Below.refl _ _⟩⟩
          case round =>
            obtain ⟨j, rfl, hj, HBR⟩ := hrel
            by_cases hlt : j < Q.lines.length
            · have HJ := Aside0.mk (fun h => HS.out wr HBR.out j hlt h)
              by_cases q1 : (j : Int) ≤ i
              · by_cases q2 : k0 < j
                · skip
                  have HC := Aside0.mk (HJ.out (HBT.out j hlt q1 q2))
                  clear HJ HS
                  go_wp2_with (go_at_call 29; refine HC.out.mono ?_; rintro e w' ⟨rfl, hb'⟩)
                  go_roundw
                  case rel => exact ⟨j + 1, by simp, by omega, ⟨below_step HBR.out hb'⟩⟩
                  case measure => simp [intOf]; omega
                · skip
                  clear HJ HS
                  go_wp2
                  go_roundw
                  case rel => exact ⟨j + 1, by simp, by omega, HBR⟩
                  case measure => simp [intOf]; omega
              · skip
                clear HJ HS
                go_wp2
                go_roundw
                case rel => exact ⟨j + 1, by simp, by omega, HBR⟩
                case measure => simp [intOf]; omega
            · obtain rfl : j = Q.lines.length := by omega
              clear HS
              go_wp2
              go_ret
              exact ⟨rfl, below_step (below_step HB.out HBW.out) HBR.out⟩
      · have HBT := Aside0.mk hbt
        clear hbt
        obtain ⟨W, hW⟩ : ∃ W, W = w4 := ⟨_, rfl⟩
        have HBW : Aside0 (Below w4.heap.size w4 W) := ⟨by rw [hW]; exact Below.refl _ _⟩
        have HMW : Aside0 (W.cell? ⟨0, 0, none⟩ = some (.int .i64 m)) := ⟨by rw [hW]; exact hmw⟩
        rw [← hW]
        clear hW
        have HLW := hH.below HBW.out
        have gW11 := blk_below h11 HBW.out
        have kW11 : W.cell? ⟨g11, 0, none⟩ = some (.pointer (some ⟨gh, 0, none⟩)) := (blk_cell gW11 0).trans rfl
        have HS := Aside0.mk (fun (wr : World) (hr : Below W.heap.size W wr) (j : Nat) (hj : j < Q.lines.length) (h : foundF Q.lines[j].f0 t true c < 0) => has_false (HLW.below hr) hbne ((hr.cell (World.block_lt_of_cell? W _ (HMW.out))).trans HMW.out) j hj (HSZ'.out _ (List.getElem_mem hj)) t c (blk_below gW11 hr) (blk_below (blk_below h9 HBW.out) hr) (blk_below (blk_below h7 HBW.out) hr) true h)
        clear gW11
        go_wp2_with (go_at_call 12; refine (len_calls HLW hbne).mono ?_; rintro e w' ⟨rfl, rfl⟩)
        go_loopw [85] (fun x wr => ∃ j : Nat, x = .int .i64 (j : Int) ∧ j ≤ Q.lines.length ∧ Aside0 (Below W.heap.size W wr)) (fun x wr => Q.lines.length - (intOf x).toNat)
        case atStart => exact ⟨0, rfl, Nat.zero_le _, ⟨Below.refl _ _⟩⟩
        case round =>
          obtain ⟨j, rfl, hj, HBR⟩ := hrel
          by_cases hlt : j < Q.lines.length
          · have HJ := Aside0.mk (fun h => HS.out wr HBR.out j hlt h)
            by_cases q1 : (j : Int) ≤ i
            · skip
              have HC := Aside0.mk (HJ.out (HBT.out j hlt q1))
              clear HJ HS
              go_wp2_with (go_at_call 29; refine HC.out.mono ?_; rintro e w' ⟨rfl, hb'⟩)
              go_roundw
              case rel => exact ⟨j + 1, by simp, by omega, ⟨below_step HBR.out hb'⟩⟩
              case measure => simp [intOf]; omega
            · skip
              clear HJ HS
              go_wp2
              go_roundw
              case rel => exact ⟨j + 1, by simp, by omega, HBR⟩
              case measure => simp [intOf]; omega
          · obtain rfl : j = Q.lines.length := by omega
            clear HS
            go_wp2
            go_ret
            exact ⟨rfl, below_step (below_step HB.out HBW.out) HBR.out⟩
  · have FC := fun (w1 : World) (hb : Below w.heap.size w w1) => from_lines 4096 (by decide) (by decide) A0 c0 l0 w1 (Kd.C_below hr0 hb) hc0 (by omega) hm
    have hmc := mayF_cases l0
    generalize mayF l0 = m' at hm hmc FC
    have FC' := Aside0.mk FC
    clear FC
    have hal := below_alloc (below_alloc (Below.refl w.heap.size w) (.cells #[.string t] 9)) (.cells #[.bool c] 4)
    rcases hmc with rfl | rfl | rfl
    · exact absurd rfl hm
    all_goals
      go_enter Try.func6, Try.ntmps6
      go_wp2_with (first
        | (go_at_call 16; refine (FC'.out _ hal).mono ?_; rintro e w2 ⟨rfl, hb2⟩)
        | (go_at_call 10; refine (begun_calls _).mono ?_; rintro e w4 ⟨rfl, hb4⟩))
      go_ret
      exact ⟨rfl, below_step (below_alloc (below_step hal hb2) _) hb4⟩
end Go.Proofs.Ytbjdjbhmafmnbaa
