/- The reference's rules: kinds. -/
import Derived.Test.YtfommmijojfdbaaGreatDoorZ27
import Derived.Test.YtfommmijojfdbaaGreatDoorZ01
set_option linter.all false
namespace Go.Proofs.YtfommmijojfdbaaGreatDoor
open Go.RowKit

/-- The kinds of the gates from a place on are a side's kinds. -/
def kindsB (c : C) (at_ : Nat) (l : List G) : Bool := decide (at_ + l.length ≤ c.gates.length ∧ ((c.gates.drop at_).take l.length).map G.kind = l.map G.kind)
set_option maxRecDepth 100000 in
set_option maxHeartbeats 4000000 in
theorem rKinds_any (A B : Option Addr) (k m : Nat) (c : C) (at_ : Nat) (l : List G) (w : World) (h : RdG w A c.gates) (h' : RdG w B l) (hc : c.gates.length ≤ 1000) (hat : at_ ≤ 1000) (hl : l.length ≤ 1000) :
    Calls Tryz.prog 109 #[.agg #[.int .i64 c.wires, .int .i64 c.bits, .slice A c.gates.length k], .int .i64 at_, .slice B l.length m] w fun e w' => e = .returned (.bool (kindsB c at_ l)) ∧ Below w.heap.size w w' := by
  have HH := Lib.hid (And.intro h h')
  clear h h'
  have hwr : IntKind.i64.wrap ((at_ : Int) + (l.length : Int)) = (at_ : Int) + (l.length : Int) := IntWalk.i64_in _ (by omega)
  go_enter Tryz.func109, Tryz.ntmps109
  go_upto_region 1 with fail
  obtain ⟨W1, hW1⟩ : ∃ W1, w.alloc (.cells #[.int .i64 c.wires, .int .i64 c.bits, .slice A c.gates.length k] 24) = W1 := ⟨_, rfl⟩
  have hb1 : Below w.heap.size w W1 := by rw [← hW1]; (repeat (first|exact bR _ _|assumption|apply bN|apply bA|apply bD))
  have p0 : W1.heap[w.heap.size]? = some (.cells #[.int .i64 c.wires, .int .i64 c.bits, .slice A c.gates.length k] 24 (0, 0)) := by rw [← hW1]; exact heap_alloc_new _ _
  obtain ⟨k0, k1, k2, kf⟩ := cells3 p0
  rw [hW1]
  clear hW1
  have HP0 := Lib.hid p0
  clear p0
  have HB := Lib.hid hb1
  clear hb1
  by_cases h1 : c.gates.length < at_ + l.length
  · have h1' : (c.gates.length : Int) < (at_ : Int) + (l.length : Int) := by omega
    have HF := Lib.hid (show kindsB c at_ l = false by
      unfold kindsB
      rw [decide_eq_false_iff_not]
      intro e
      omega)
    clear h1
    go_wp2
    go_ret
    exact ⟨ret_bool HF.out.symm, HB.out⟩
  have h1' : ¬ (c.gates.length : Int) < (at_ : Int) + (l.length : Int) := by omega
  have h2 : at_ + l.length ≤ c.gates.length := by omega
  clear h1
  go_wp2
  go_loopw [7, 8, 19] (fun _ _ i wr => ∃ j : Nat, j ≤ l.length ∧ i = .int .i64 j ∧ Hid (((c.gates.drop at_).take j).map G.kind = (l.take j).map G.kind) ∧ Hid (wr.heap[w.heap.size]? = some (.cells #[.int .i64 c.wires, .int .i64 c.bits, .slice A c.gates.length k] 24 (0, 0)) ∧ Below w.heap.size w wr)) (fun _ _ i _ => l.length - (intOf i).toNat)
  case atStart => exact ⟨0, Nat.zero_le _, rfl, Lib.hid (by simp), Lib.hid ⟨HP0.out, HB.out⟩⟩
  case round =>
    obtain ⟨j, hj, rfl, HI, HP⟩ := hrel
    clear k0 k1 k2 kf
    obtain ⟨k0, k1, k2, kf⟩ := cells3 HP.out.1
    have hlp := blk_lt HP.out.1
    by_cases hlt : j < l.length
    · have hltc : at_ + j < c.gates.length := by omega
      obtain ⟨b, o, B0, d0, rfl, g0, g1, g2, g3, hd, hrd⟩ := (HH.out.2.bG HP.out.2).gate j hlt
      obtain ⟨b', o', B1, d1, rfl, i0, i1, i2, i3, hd', hrd'⟩ := (HH.out.1.bG HP.out.2).gate (at_ + j) hltc
      have HX := Lib.hid (And.intro (List.take_succ_eq_append_getElem hlt) (show (c.gates.drop at_).take (j + 1) = (c.gates.drop at_).take j ++ [c.gates[at_ + j]] by
        rw [List.take_succ_eq_append_getElem (by rw [List.length_drop]; omega), List.getElem_drop]))
      obtain ⟨g, hg⟩ : ∃ g, l[j] = g := ⟨_, rfl⟩
      obtain ⟨g', hg'⟩ : ∃ g, c.gates[at_ + j] = g := ⟨_, rfl⟩
      rw [hg] at g0 g1 g2 g3 hd
      rw [hg'] at i0 i1 i2 i3 hd'
      rw [hg, hg'] at HX
      clear hg hg' hrd hrd'
      have hl1 := cell_lt g0
      have hl2 := cell_lt i0
      have hold := olds wr
      have hwr7 : IntKind.i64.wrap ((at_ : Int) + (j : Int)) = (at_ : Int) + (j : Int) := IntWalk.i64_in _ (by omega)
      have hpos7 : (0 : Int) ≤ (at_ : Int) + (j : Int) := by omega
      have hlt7 : (at_ : Int) + (j : Int) < (c.gates.length : Int) := by omega
      have hnat7 : ((at_ : Int) + (j : Int)).toNat = at_ + j := by omega
      go_upto_region 6 with fail
      obtain ⟨w5, hw5⟩ : ∃ w5, wr.alloc (.cells #[.int .i64 g.kind, .slice B0 g.wires.length d0, .int .i64 g.bit, .int .i64 g.cif] 55) = w5 := ⟨_, rfl⟩
      have hb5 : Below wr.heap.size wr w5 := by rw [← hw5]; (repeat (first|exact bR _ _|assumption|apply bN|apply bA|apply bD))
      have x0 : w5.heap[wr.heap.size]? = some (.cells #[.int .i64 g.kind, .slice B0 g.wires.length d0, .int .i64 g.bit, .int .i64 g.cif] 55 (0, 0)) := by rw [← hw5]; exact heap_alloc_new _ _
      rw [hw5]
      clear hw5 hold
      obtain ⟨s0, s1, s2, s3, sf⟩ := cells4 x0
      have HP5 := Lib.hid (And.intro (blk2 hb5 HP.out.1) (HP.out.2.trans (hb5.mono HP.out.2.size)))
      clear k0 k1 k2 kf g0 g1 g2 g3
      obtain ⟨k0, k1, k2, kf⟩ := cells3 HP5.out.1
      replace i0 := kc hb5 i0
      clear i1 i2 i3 x0 hb5
      by_cases he : g'.kind = g.kind
      · have te : (g'.kind != g.kind) = false := by simpa using he
        have HI2 := Lib.hid (show ((c.gates.drop at_).take (j + 1)).map G.kind = (l.take (j + 1)).map G.kind by rw [HX.out.1, HX.out.2, List.map_append, List.map_append, HI.out]; simp [he])
        clear he
        go_wp2
        refine wp_region_sg (by kernel_rfl) [0, 1, 2, 3, 4, 5, 6, 7, 8, 9, 10] (by kernel_rfl) (by kernel_rfl) (by kernel_rfl) ?_
        refine SG.p (v := ?v1_6_0) rfl rfl rfl (fun W => ?h1_6_0) ?r1_6_0
        case h1_6_0 => (first|(go_simp;done)|(go_simp;with_reducible rfl))
        simp only [Act.put, pA, pB, pC]
        refine SG.l (v := ?v1_6_1) rfl rfl rfl ?h1_6_1 ?r1_6_1
        case h1_6_1 => (first|(go_simp;done)|(go_simp;with_reducible rfl))
        simp only [Act.put, pA, pB, pC]
        refine SG.p (v := ?v1_6_2) rfl rfl rfl (fun W => ?h1_6_2) ?r1_6_2
        case h1_6_2 => (first|(go_simp;done)|(go_simp;with_reducible rfl))
        simp only [Act.put, pA, pB, pC]
        refine SG.p (v := ?v1_6_3) rfl rfl rfl (fun W => ?h1_6_3) ?r1_6_3
        case h1_6_3 => (first|(go_simp;done)|(go_simp;with_reducible rfl))
        simp only [Act.put, pA, pB, pC]
        refine SG.p (v := ?v1_6_4) rfl rfl rfl (fun W => ?h1_6_4) ?r1_6_4
        case h1_6_4 => (first|(go_simp;done)|(go_simp;with_reducible rfl))
        simp only [Act.put, pA, pB, pC]
        refine SG.p (v := ?v1_6_5) rfl rfl rfl (fun W => ?h1_6_5) ?r1_6_5
        case h1_6_5 => (first|(go_simp;done)|(go_simp;with_reducible rfl))
        simp only [Act.put, pA, pB, pC]
        refine SG.p (v := ?v1_6_6) rfl rfl rfl (fun W => ?h1_6_6) ?r1_6_6
        case h1_6_6 => (first|(go_simp;done)|(go_simp;with_reducible rfl))
        simp only [Act.put, pA, pB, pC]
        refine SG.l (v := ?v1_6_7) rfl rfl rfl ?h1_6_7 ?r1_6_7
        case h1_6_7 => (first|(go_simp;done)|(go_simp;with_reducible rfl))
        simp only [Act.put, pA, pB, pC]
        refine SG.p (v := ?v1_6_8) rfl rfl rfl (fun W => ?h1_6_8) ?r1_6_8
        case h1_6_8 => (first|(go_simp;done)|(go_simp;with_reducible rfl))
        simp only [Act.put, pA, pB, pC]
        refine SG.l (v := ?v1_6_9) rfl rfl rfl ?h1_6_9 ?r1_6_9
        case h1_6_9 => (first|(go_simp;done)|(go_simp;with_reducible rfl))
        simp only [Act.put, pA, pB, pC]
        refine SG.p (v := ?v1_6_10) rfl rfl rfl (fun W => ?h1_6_10) ?r1_6_10
        case h1_6_10 => (first|(go_simp;done)|(go_simp;with_reducible rfl))
        simp only [Act.put, pA, pB, pC]
        simp only [SG]
        go_wp2
        go_roundw
        case rel => exact ⟨j + 1, by omega, by go_num, HI2, Lib.hid ⟨HP5.out.1, by have := HP5.out.2; (repeat (first|exact bR _ _|assumption|apply bN|apply bA|apply bD))⟩⟩
        case measure => simp [intOf]; omega
      · have te : (g'.kind != g.kind) = true := by simpa using he
        have HF := Lib.hid (show kindsB c at_ l = false by
          unfold kindsB
          rw [decide_eq_false_iff_not]
          rintro ⟨_, e⟩
          have e1 := congrArg (List.take (j + 1)) e
          rw [← List.map_take, ← List.map_take, List.take_take, Nat.min_eq_left (by omega), HX.out.1, HX.out.2, List.map_append, List.map_append, HI.out] at e1
          have := List.append_cancel_left e1
          simp at this
          exact he this)
        clear he
        go_wp2
        refine wp_region_sg (by kernel_rfl) [0, 1, 2, 3, 4, 5, 6, 7, 8, 9, 10] (by kernel_rfl) (by kernel_rfl) (by kernel_rfl) ?_
        refine SG.p (v := ?v2_6_0) rfl rfl rfl (fun W => ?h2_6_0) ?r2_6_0
        case h2_6_0 => (first|(go_simp;done)|(go_simp;with_reducible rfl))
        simp only [Act.put, pA, pB, pC]
        refine SG.l (v := ?v2_6_1) rfl rfl rfl ?h2_6_1 ?r2_6_1
        case h2_6_1 => (first|(go_simp;done)|(go_simp;with_reducible rfl))
        simp only [Act.put, pA, pB, pC]
        refine SG.p (v := ?v2_6_2) rfl rfl rfl (fun W => ?h2_6_2) ?r2_6_2
        case h2_6_2 => (first|(go_simp;done)|(go_simp;with_reducible rfl))
        simp only [Act.put, pA, pB, pC]
        refine SG.p (v := ?v2_6_3) rfl rfl rfl (fun W => ?h2_6_3) ?r2_6_3
        case h2_6_3 => (first|(go_simp;done)|(go_simp;with_reducible rfl))
        simp only [Act.put, pA, pB, pC]
        refine SG.p (v := ?v2_6_4) rfl rfl rfl (fun W => ?h2_6_4) ?r2_6_4
        case h2_6_4 => (first|(go_simp;done)|(go_simp;with_reducible rfl))
        simp only [Act.put, pA, pB, pC]
        refine SG.p (v := ?v2_6_5) rfl rfl rfl (fun W => ?h2_6_5) ?r2_6_5
        case h2_6_5 => (first|(go_simp;done)|(go_simp;with_reducible rfl))
        simp only [Act.put, pA, pB, pC]
        refine SG.p (v := ?v2_6_6) rfl rfl rfl (fun W => ?h2_6_6) ?r2_6_6
        case h2_6_6 => (first|(go_simp;done)|(go_simp;with_reducible rfl))
        simp only [Act.put, pA, pB, pC]
        refine SG.l (v := ?v2_6_7) rfl rfl rfl ?h2_6_7 ?r2_6_7
        case h2_6_7 => (first|(go_simp;done)|(go_simp;with_reducible rfl))
        simp only [Act.put, pA, pB, pC]
        refine SG.p (v := ?v2_6_8) rfl rfl rfl (fun W => ?h2_6_8) ?r2_6_8
        case h2_6_8 => (first|(go_simp;done)|(go_simp;with_reducible rfl))
        simp only [Act.put, pA, pB, pC]
        refine SG.l (v := ?v2_6_9) rfl rfl rfl ?h2_6_9 ?r2_6_9
        case h2_6_9 => (first|(go_simp;done)|(go_simp;with_reducible rfl))
        simp only [Act.put, pA, pB, pC]
        refine SG.p (v := ?v2_6_10) rfl rfl rfl (fun W => ?h2_6_10) ?r2_6_10
        case h2_6_10 => (first|(go_simp;done)|(go_simp;with_reducible rfl))
        simp only [Act.put, pA, pB, pC]
        simp only [SG]
        go_wp2
        go_ret
        exact ⟨ret_bool HF.out.symm, by have := HP5.out.2; (repeat (first|exact bR _ _|assumption|apply bN|apply bA|apply bD))⟩
    · go_wp2
      go_ret
      exact ⟨ret_bool (by
        unfold kindsB
        rw [eq_comm, decide_eq_true_eq]
        have := HI.out
        rw [show j = l.length by omega, List.take_of_length_le (Nat.le_refl l.length)] at this
        exact ⟨h2, this⟩), HP.out.2⟩
end Go.Proofs.YtfommmijojfdbaaGreatDoor
