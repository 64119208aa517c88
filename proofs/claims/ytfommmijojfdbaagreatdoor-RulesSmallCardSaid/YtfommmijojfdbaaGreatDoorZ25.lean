/- Part 26 of the proof that 'spoondriftlaw19.RulesApplies' holds for every input; it has no condition beyond the statement's own. -/
import Derived.Test.YtfommmijojfdbaaGreatDoorZ22
import Derived.Test.YtfommmijojfdbaaGreatDoorZ15
import Derived.Test.YtfommmijojfdbaaGreatDoorZ14
import Derived.Test.YtfommmijojfdbaaGreatDoorZ03
set_option linter.all false
namespace Go.Proofs.YtfommmijojfdbaaGreatDoor
open Go.RowKit
theorem phase_range (i : Nat) (hi : i < 44) (back : Bool) : 0 ≤ phaseN i back ∧ phaseN i back < 8 := by
  have all : ∀ i, i < 44 → (decide (0 ≤ ruleP i) && decide (ruleP i < 8)) = true := by decide
  have := all i hi
  simp only [Bool.and_eq_true, decide_eq_true_eq] at this
  unfold phaseN
  cases back <;> simp <;> omega
theorem applyR_phase {c : C} {s : M} (h : (applyR c s).1 = 0) : 0 ≤ (applyR c s).2.2 ∧ (applyR c s).2.2 < 8 := by
  unfold applyR at h ⊢
  by_cases hm : moveE c s = 0
  · rw [if_pos hm] at h ⊢
    unfold moveE at hm
    split at hm
    · cases hm
    rename_i h1
    unfold stepR at h ⊢
    split
    · unfold stepX; split <;> simp
    · unfold stepN
      split
      · simp
      split
      · simp
      · exact phase_range _ (by omega) _
  · rw [if_neg hm] at h ⊢; simp
set_option maxRecDepth 1000000 in
set_option maxHeartbeats 8000000 in
theorem follow_any (A B : Option Addr) (k d : Nat) (c : C) (l : List M) (w : World) (HT : Hid (Laid w)) (h : RdG w A c.gates) (hk : c.gates.length ≤ k) (h' : RdM w B l) (hG : Good c) :
    Calls Tryz.prog 72 #[.agg #[.int .i64 c.wires, .int .i64 c.bits, .slice A c.gates.length k], .slice B l.length d] w (RetC (followR c l) w) := by
  have HH := Lib.hid (And.intro h (And.intro h' hG))
  have hlen := hG.len
  have hwl := h'.1
  clear h h' hG
  go_enter Tryz.func72, Tryz.ntmps72
  go_upto_region 1 with fail
  obtain ⟨W1, hW1⟩ : ∃ W1, (w.alloc (.cells #[.int .i64 c.wires, .int .i64 c.bits, .slice A c.gates.length k] 24)).alloc (.cells #[.int .i64 0, .int .i64 0, .slice none 0 0] 24) = W1 := ⟨_, rfl⟩
  have hb01 : Below w.heap.size w W1 := by rw [← hW1]; (repeat (first|exact bR _ _|assumption|apply bN|apply bA|apply bD))
  have hz1 : W1.heap.size = w.heap.size + 2 := by rw [← hW1]; simp
  have p0 : W1.heap[w.heap.size]? = some (.cells #[.int .i64 c.wires, .int .i64 c.bits, .slice A c.gates.length k] 24) := by rw [← hW1]; exact alloc_old (blk_alloc _ _ _ rfl)
  have p1 : W1.heap[w.heap.size + 1]? = some (.cells #[.int .i64 0, .int .i64 0, .slice none 0 0] 24) := by rw [← hW1]; exact blk_alloc _ _ _ (by simp)
  rw [hW1]
  clear hW1
  obtain ⟨a0, a1, a2, af⟩ := cells3 p0
  obtain ⟨r0, r1, r2, rf⟩ := cells3 p1
  by_cases h1 : 400 < l.length
  · have h1' : (400 : Int) < (l.length : Int) := by omega
    have HP := Lib.hid (And.intro p1 hb01)
    go_wp2
    rw [show followR c l = (2, zeroC, 0) by unfold followR; rw [if_pos h1]]
    exact bodyPost_ret (results_list (rs := [.cell 4 24, .tmp 5, .tmp 6]) rfl (by simp) (.cell (w.heap.size + 1) 24 _ _ _ rfl (set3 HP.out.1) Tryz.underlying24 rfl (by kernel_rfl) (.tmp (.tmp .nil)))) rfl
      ⟨_, rfl, own_nil _ _ _ _, ((HP.out.2.setCell (by first|(simp;done)|(simp;omega)|omega) _).setCell (by first|(simp;done)|(simp;omega)|omega) _).setCell (by first|(simp;done)|(simp;omega)|omega) _⟩
  have h1' : ¬ (400 : Int) < (l.length : Int) := by omega
  have HF := Lib.hid (show followR c l = followS c 0 l by unfold followR; rw [if_neg h1])
  clear h1
  go_upto_region 3 with fail
  go_cut [7, 8] (fun p ph wx => ∃ b A3 c3, p = .pointer (some ⟨b, 0, none⟩) ∧ ph = .int .i64 0 ∧ Hid (wx.heap[b]? = some (.cells #[.int .i64 c.wires, .int .i64 c.bits, .slice A3 c.gates.length c3] 24 (0, 0)) ∧ w.heap.size + 2 ≤ b ∧ Own 3 55 (w.heap.size + 2) wx (.slice A3 c.gates.length c3) c.gates ∧ Below W1.heap.size W1 wx))
  case first =>
    refine wp_region_st (by kernel_rfl) (.op 0 (.op 1 (.op 2 (.op 3 (.op 4 (.op 5 (.alt true 6 (.alt true 7 (.op 8 (.alt true 9 (.alt true 10 (.op 11 .fin) .stop) .stop)) (.alt false 9 (.alt true 7 (.op 8 (.alt true 10 (.op 11 .fin) .stop)) .stop) .stop)) (.alt false 9 (.alt true 6 (.alt true 7 (.op 8 (.alt true 10 (.op 11 .fin) .stop)) .stop) .stop) .stop)))))))) (by kernel_rfl) (by kernel_rfl) (by kernel_rfl) ?_
    refine ST.p (v := ?v1_3_0_1) rfl rfl rfl (fun W => ?h1_3_0_1) ?r1_3_0_1
    case h1_3_0_1 => (first|(go_simp;done)|(go_simp;with_reducible rfl)|(go_simp;constructor<;>with_reducible rfl))
    simp only [Act.put, pA, pB, pC]
    refine ST.l (v := ?v1_3_1_2) rfl rfl rfl ?h1_3_1_2 ?r1_3_1_2
    case h1_3_1_2 => (first|(go_simp;done)|(go_simp;with_reducible rfl)|(go_simp;constructor<;>with_reducible rfl))
    simp only [Act.put, pA, pB, pC]
    refine ST.p (v := ?v1_3_2_3) rfl rfl rfl (fun W => ?h1_3_2_3) ?r1_3_2_3
    case h1_3_2_3 => (first|(go_simp;done)|(go_simp;with_reducible rfl)|(go_simp;constructor<;>with_reducible rfl))
    simp only [Act.put, pA, pB, pC]
    refine ST.l (v := ?v1_3_3_4) rfl rfl rfl ?h1_3_3_4 ?r1_3_3_4
    case h1_3_3_4 => (first|(go_simp;done)|(go_simp;with_reducible rfl)|(go_simp;constructor<;>with_reducible rfl))
    simp only [Act.put, pA, pB, pC]
    refine ST.p (v := ?v1_3_4_5) rfl rfl rfl (fun W => ?h1_3_4_5) ?r1_3_4_5
    case h1_3_4_5 => (first|(go_simp;done)|(go_simp;with_reducible rfl)|(go_simp;constructor<;>with_reducible rfl))
    simp only [Act.put, pA, pB, pC]
    refine ST.l (v := ?v1_3_5_6) rfl rfl rfl ?h1_3_5_6 ?r1_3_5_6
    case h1_3_5_6 => (first|(go_simp;done)|(go_simp;with_reducible rfl)|(go_simp;constructor<;>with_reducible rfl))
    simp only [Act.put, pA, pB, pC]
    refine ST.v (v := ?v1_3_6_22) (w' := ?w1_3_6_22) rfl rfl ?h1_3_6_22 ?s1_3_6_22 ?r1_3_6_22 ?x1_3_6_22
    case h1_3_6_22 => (first|(go_simp;done)|(go_simp;with_reducible rfl)|(go_simp;constructor<;>with_reducible rfl))
    case s1_3_6_22 => exact ⟨(nw (by kernel_rfl)), (fun _ => ⟨_, drop_at rfl, by (first|(go_simp;done)|(go_simp;with_reducible rfl))⟩), (fun _ => ⟨_, drop_at rfl, by (first|(go_simp;done)|(go_simp;with_reducible rfl))⟩), trivial⟩
    case r1_3_6_22 =>
     simp only [Act.put, pA, pB, pC]
     refine ST.c rfl rfl (by first|(go_simp;done)|(go_simp;with_reducible rfl)|(go_simp;exact ⟨⟨rfl, rfl⟩, rfl⟩)) ?c1_3_7_15 ?x1_3_7_15
     case c1_3_7_15 =>
      refine (copied_any (some ⟨_, 0, none⟩) 1 [c.gates] _ (RdGs.one (by go_simp) hk (HH.out.1.bG (by (repeat (first|exact bR _ _|assumption|apply bN|apply bA|apply bD))))) (fun l hl g hg => HH.out.2.2.wires g (by rw [List.mem_singleton.1 hl] at hg; exact hg)) (by simp; omega)).mono ?_
      rintro e w3 ⟨v3, rfl, ho3, hb3⟩
      rw [List.flatten_singleton] at ho3
      have hb13 : Below W1.heap.size W1 w3 := Below.trans (show Below W1.heap.size W1 _ by (repeat (first|exact bR _ _|assumption|apply bN|apply bA|apply bD))) (hb3.mono (by first|(simp;done)|(simp;omega)|omega))
      obtain ⟨A3, c3, rfl, hc3⟩ := ho3.form'
      have e0 := kc hb13 a0
      have e1 := kc hb13 a1
      have e2 := kc hb13 a2
      have hlt3 := cell_lt e0
      have hold := olds w3
      have hn1 : (w3.heap.size = w.heap.size) = False := by simp; omega
      have hn2 : (w.heap.size = w3.heap.size) = False := by simp; omega
      have HQ := Lib.hid (And.intro ho3 hb13)
      clear ho3
      refine ⟨_, rfl, ?_, ?_⟩
      · exact ⟨(fun _ => ⟨_, drop_at rfl, by (first|(go_simp;done)|(go_simp;with_reducible rfl))⟩), (fun _ => ⟨_, drop_at rfl, by (first|(go_simp;done)|(go_simp;with_reducible rfl))⟩), (fun _ => ⟨_, drop_at rfl, by (first|(go_simp;done)|(go_simp;with_reducible rfl))⟩), trivial⟩
      simp only [Act.put, pA, pB, pC]
      refine ST.p (v := ?v1_3_8_7) rfl rfl rfl (fun W => ?h1_3_8_7) ?r1_3_8_7
      case h1_3_8_7 => (first|(go_simp;done)|(go_simp;with_reducible rfl)|(go_simp;constructor<;>with_reducible rfl))
      simp only [Act.put, pA, pB, pC]
      refine ST.v (v := ?v1_3_9_10) (w' := ?w1_3_9_10) rfl rfl ?h1_3_9_10 ?s1_3_9_10 ?r1_3_9_10 ?x1_3_9_10
      case h1_3_9_10 => (first|(go_simp;done)|(go_simp;with_reducible rfl)|(go_simp;constructor<;>with_reducible rfl))
      case s1_3_9_10 => exact ⟨(fun _ => ⟨_, drop_at rfl, by (first|(go_simp;done)|(go_simp;with_reducible rfl))⟩), (fun _ => ⟨_, drop_at rfl, by (first|(go_simp;done)|(go_simp;with_reducible rfl))⟩), (fun _ => ⟨_, drop_at rfl, by (first|(go_simp;done)|(go_simp;with_reducible rfl))⟩), trivial⟩
      case x1_3_9_10 => exact ST.stop
      simp only [Act.put, pA, pB, pC]
      refine ST.k (w' := ?w1_3_10_9) rfl rfl ?h1_3_10_9 ?s1_3_10_9 ?r1_3_10_9 ?x1_3_10_9
      case h1_3_10_9 => (first|(go_simp;done)|(go_simp;with_reducible rfl)|(go_simp;constructor<;>with_reducible rfl))
      case s1_3_10_9 => exact ⟨(nw (by kernel_rfl)), (nw (by kernel_rfl)), (nw (by kernel_rfl)), trivial⟩
      case x1_3_10_9 => exact ST.stop
      simp only [Act.put, pA, pB, pC]
      refine ST.p (v := ?v1_3_11_8) rfl rfl rfl (fun W => ?h1_3_11_8) ?r1_3_11_8
      case h1_3_11_8 => (first|(go_simp;done)|(go_simp;with_reducible rfl)|(go_simp;constructor<;>with_reducible rfl))
      simp only [Act.put, pA, pB, pC]
      simp only [ST]
      go_wp2
      go_meet
      have hsz := hb13.size
      exact ⟨_, A3, c3, rfl, rfl, Lib.hid ⟨blk_alloc _ _ _ rfl, by omega, (HQ.out.1.below (below_alloc (Below.refl _ _) _)).weak (by simp; omega), by (repeat (first|exact bR _ _|assumption|apply bN|apply bA|apply bD))⟩⟩
     case' x1_3_7_15 => skip
     refine ST.v (v := ?v1_3_9_16) (w' := ?w1_3_9_16) rfl rfl ?h1_3_9_16 ?s1_3_9_16 ?r1_3_9_16 ?x1_3_9_16
     case h1_3_9_16 => (first|(go_simp;done)|(go_simp;with_reducible rfl)|(go_simp;constructor<;>with_reducible rfl))
     case s1_3_9_16 => exact ⟨(fun _ => ⟨_, drop_at rfl, by (first|(go_simp;done)|(go_simp;with_reducible rfl))⟩), (fun _ => ⟨_, drop_at rfl, by (first|(go_simp;done)|(go_simp;with_reducible rfl))⟩), (fun _ => ⟨_, drop_at rfl, by (first|(go_simp;done)|(go_simp;with_reducible rfl))⟩), trivial⟩
     case r1_3_9_16 =>
      simp only [Act.put, pA, pB, pC]
      refine ST.c rfl rfl (by first|(go_simp;done)|(go_simp;with_reducible rfl)|(go_simp;exact ⟨⟨rfl, rfl⟩, rfl⟩)) ?c1_3_7_14 ?x1_3_7_14
      case x1_3_7_14 => exact ST.stop
      refine (copied_any (some ⟨_, 0, none⟩) 1 [c.gates] _ (RdGs.one (by go_simp) hk (HH.out.1.bG (by (repeat (first|exact bR _ _|assumption|apply bN|apply bA|apply bD))))) (fun l hl g hg => HH.out.2.2.wires g (by rw [List.mem_singleton.1 hl] at hg; exact hg)) (by simp; omega)).mono ?_
      rintro e w3 ⟨v3, rfl, ho3, hb3⟩
      rw [List.flatten_singleton] at ho3
      have hb13 : Below W1.heap.size W1 w3 := Below.trans (show Below W1.heap.size W1 _ by (repeat (first|exact bR _ _|assumption|apply bN|apply bA|apply bD))) (hb3.mono (by first|(simp;done)|(simp;omega)|omega))
      obtain ⟨A3, c3, rfl, hc3⟩ := ho3.form'
      have e0 := kc hb13 a0
      have e1 := kc hb13 a1
      have e2 := kc hb13 a2
      have q : w3.heap[w.heap.size + 2 + 1]? = some (.cells #[.int .i64 0, .int .i64 0, .slice none 0 0] 24) := blk2 hb3 (blk_alloc (W1.alloc _) _ _ (by simp; omega))
      obtain ⟨f0, f1, f2, ff⟩ := cells3 q
      have hlt3 := cell_lt e0
      have hold := olds w3
      have hn1 : (w3.heap.size = w.heap.size) = False := by simp; omega
      have hn2 : (w.heap.size = w3.heap.size) = False := by simp; omega
      have HQ := Lib.hid (And.intro q (And.intro ho3 hb13))
      clear q
      clear ho3
      refine ⟨_, rfl, ?_, ?_⟩
      · exact ⟨(fun _ => ⟨_, drop_at rfl, by (first|(go_simp;done)|(go_simp;with_reducible rfl))⟩), (fun _ => ⟨_, drop_at rfl, by (first|(go_simp;done)|(go_simp;with_reducible rfl))⟩), (fun _ => ⟨_, drop_at rfl, by (first|(go_simp;done)|(go_simp;with_reducible rfl))⟩), trivial⟩
      simp only [Act.put, pA, pB, pC]
      refine ST.p (v := ?v1_3_8_11) rfl rfl rfl (fun W => ?h1_3_8_11) ?r1_3_8_11
      case h1_3_8_11 => (first|(go_simp;done)|(go_simp;with_reducible rfl)|(go_simp;constructor<;>with_reducible rfl))
      simp only [Act.put, pA, pB, pC]
      refine ST.k (w' := ?w1_3_10_13) rfl rfl ?h1_3_10_13 ?s1_3_10_13 ?r1_3_10_13 ?x1_3_10_13
      case h1_3_10_13 => (first|(go_simp;done)|(go_simp;with_reducible rfl)|(go_simp;constructor<;>with_reducible rfl))
      case s1_3_10_13 => exact ⟨(nw (by kernel_rfl)), (nw (by kernel_rfl)), (nw (by kernel_rfl)), trivial⟩
      case x1_3_10_13 => exact ST.stop
      simp only [Act.put, pA, pB, pC]
      refine ST.p (v := ?v1_3_11_12) rfl rfl rfl (fun W => ?h1_3_11_12) ?r1_3_11_12
      case h1_3_11_12 => (first|(go_simp;done)|(go_simp;with_reducible rfl)|(go_simp;constructor<;>with_reducible rfl))
      simp only [Act.put, pA, pB, pC]
      simp only [ST]
      go_wp2
      go_meet
      have hsz := hb13.size
      exact ⟨_, A3, c3, rfl, rfl, Lib.hid ⟨set3 HQ.out.1, by omega, (HQ.out.2.1.setT3 HQ.out.1 (by decide) (by decide)).weak (by simp; omega), ((hb13.setCell (by simp; omega) _).setCell (by simp; omega) _).setCell (by simp; omega) _⟩⟩
     case x1_3_9_16 => exact ST.stop
    case' x1_3_6_22 => skip
    refine ST.v (v := ?v1_3_9_23) (w' := ?w1_3_9_23) rfl rfl ?h1_3_9_23 ?s1_3_9_23 ?r1_3_9_23 ?x1_3_9_23
    case h1_3_9_23 => (first|(go_simp;done)|(go_simp;with_reducible rfl)|(go_simp;constructor<;>with_reducible rfl))
    case s1_3_9_23 => exact ⟨(fun _ => ⟨_, drop_at rfl, by (first|(go_simp;done)|(go_simp;with_reducible rfl))⟩), (fun _ => ⟨_, drop_at rfl, by (first|(go_simp;done)|(go_simp;with_reducible rfl))⟩), (fun _ => ⟨_, drop_at rfl, by (first|(go_simp;done)|(go_simp;with_reducible rfl))⟩), trivial⟩
    case r1_3_9_23 =>
     simp only [Act.put, pA, pB, pC]
     refine ST.v (v := ?v1_3_6_21) (w' := ?w1_3_6_21) rfl rfl ?h1_3_6_21 ?s1_3_6_21 ?r1_3_6_21 ?x1_3_6_21
     case h1_3_6_21 => (first|(go_simp;done)|(go_simp;with_reducible rfl)|(go_simp;constructor<;>with_reducible rfl))
     case s1_3_6_21 => exact ⟨(nw (by kernel_rfl)), (fun _ => ⟨_, drop_at rfl, by (first|(go_simp;done)|(go_simp;with_reducible rfl))⟩), (fun _ => ⟨_, drop_at rfl, by (first|(go_simp;done)|(go_simp;with_reducible rfl))⟩), trivial⟩
     case x1_3_6_21 => exact ST.stop
     simp only [Act.put, pA, pB, pC]
     refine ST.c rfl rfl (by first|(go_simp;done)|(go_simp;with_reducible rfl)|(go_simp;exact ⟨⟨rfl, rfl⟩, rfl⟩)) ?c1_3_7_20 ?x1_3_7_20
     case x1_3_7_20 => exact ST.stop
     refine (copied_any (some ⟨_, 0, none⟩) 1 [c.gates] _ (RdGs.one (by go_simp) hk (HH.out.1.bG (by (repeat (first|exact bR _ _|assumption|apply bN|apply bA|apply bD))))) (fun l hl g hg => HH.out.2.2.wires g (by rw [List.mem_singleton.1 hl] at hg; exact hg)) (by simp; omega)).mono ?_
     rintro e w3 ⟨v3, rfl, ho3, hb3⟩
     rw [List.flatten_singleton] at ho3
     have hb13 : Below W1.heap.size W1 w3 := Below.trans (show Below W1.heap.size W1 _ by (repeat (first|exact bR _ _|assumption|apply bN|apply bA|apply bD))) (hb3.mono (by first|(simp;done)|(simp;omega)|omega))
     obtain ⟨A3, c3, rfl, hc3⟩ := ho3.form'
     have e0 := kc hb13 a0
     have e1 := kc hb13 a1
     have e2 := kc hb13 a2
     have q : w3.heap[w.heap.size + 2]? = some (.cells #[.int .i64 0, .int .i64 0, .slice none 0 0] 24) := blk2 hb3 (alloc_old (blk_alloc W1 _ _ hz1.symm))
     obtain ⟨f0, f1, f2, ff⟩ := cells3 q
     have hlt3 := cell_lt e0
     have hold := olds w3
     have hn1 : (w3.heap.size = w.heap.size) = False := by simp; omega
     have hn2 : (w.heap.size = w3.heap.size) = False := by simp; omega
     have HQ := Lib.hid (And.intro q (And.intro ho3 hb13))
     clear q
     clear ho3
     refine ⟨_, rfl, ?_, ?_⟩
     · exact ⟨(fun _ => ⟨_, drop_at rfl, by (first|(go_simp;done)|(go_simp;with_reducible rfl))⟩), (fun _ => ⟨_, drop_at rfl, by (first|(go_simp;done)|(go_simp;with_reducible rfl))⟩), (fun _ => ⟨_, drop_at rfl, by (first|(go_simp;done)|(go_simp;with_reducible rfl))⟩), trivial⟩
     simp only [Act.put, pA, pB, pC]
     refine ST.p (v := ?v1_3_8_17) rfl rfl rfl (fun W => ?h1_3_8_17) ?r1_3_8_17
     case h1_3_8_17 => (first|(go_simp;done)|(go_simp;with_reducible rfl)|(go_simp;constructor<;>with_reducible rfl))
     simp only [Act.put, pA, pB, pC]
     refine ST.k (w' := ?w1_3_10_19) rfl rfl ?h1_3_10_19 ?s1_3_10_19 ?r1_3_10_19 ?x1_3_10_19
     case h1_3_10_19 => (first|(go_simp;done)|(go_simp;with_reducible rfl)|(go_simp;constructor<;>with_reducible rfl))
     case s1_3_10_19 => exact ⟨(nw (by kernel_rfl)), (nw (by kernel_rfl)), (nw (by kernel_rfl)), trivial⟩
     case x1_3_10_19 => exact ST.stop
     simp only [Act.put, pA, pB, pC]
     refine ST.p (v := ?v1_3_11_18) rfl rfl rfl (fun W => ?h1_3_11_18) ?r1_3_11_18
     case h1_3_11_18 => (first|(go_simp;done)|(go_simp;with_reducible rfl)|(go_simp;constructor<;>with_reducible rfl))
     simp only [Act.put, pA, pB, pC]
     simp only [ST]
     go_wp2
     go_meet
     have hsz := hb13.size
     exact ⟨_, A3, c3, rfl, rfl, Lib.hid ⟨set3 HQ.out.1, by omega, (HQ.out.2.1.setT3 HQ.out.1 (by decide) (by decide)).weak (by simp; omega), ((hb13.setCell (by simp; omega) _).setCell (by simp; omega) _).setCell (by simp; omega) _⟩⟩
    case x1_3_9_23 => exact ST.stop
  case rest =>
  obtain ⟨b, A3, c3, rfl, rfl, HC⟩ := hcut
  have hbw : w.heap.size + 2 ≤ b := HC.out.2.1
  have hn1 : (b = w.heap.size) = False := by simp; omega
  have hn2 : (b = w.heap.size + 1) = False := by simp; omega
  have hn3 : (w.heap.size + 1 = b) = False := by simp; omega
  have HS := Lib.hid (show followS c 0 l = followS c 0 (l.drop 0) ∧ Good c ∧ wc.heap[b]? = some (.cells #[.int .i64 c.wires, .int .i64 c.bits, .slice A3 c.gates.length c3] 24 (0, 0)) ∧ wc.heap[w.heap.size + 1]? = some (.cells #[.int .i64 0, .int .i64 0, .slice none 0 0] 24 (0, 0)) ∧ Own 3 55 (w.heap.size + 2) wc (.slice A3 c.gates.length c3) c.gates ∧ Below w.heap.size w wc from
    ⟨by simp, HH.out.2.2, HC.out.1, blk2 HC.out.2.2.2 p1, HC.out.2.2.1, hb01.trans (HC.out.2.2.2.mono hb01.size)⟩)
  clear p0 p1 a0 a1 a2 af r0 r1 r2 rf hb01 hz1 HC
  go_wp2
  go_loopw [8, 10, 11, 12, 13, 29] (fun ph _ _ _ _ i wr => ∃ (j : Nat) (cc : C) (p : Int) (A3 : Option Addr) (c3 : Nat), j ≤ l.length ∧ i = .int .i64 j ∧ ph = .int .i64 p ∧ 0 ≤ p ∧ p < 8 ∧ Hid (followS c 0 l = followS cc p (l.drop j) ∧ Good cc ∧ wr.heap[b]? = some (.cells #[.int .i64 cc.wires, .int .i64 cc.bits, .slice A3 cc.gates.length c3] 24 (0, 0)) ∧ wr.heap[w.heap.size + 1]? = some (.cells #[.int .i64 0, .int .i64 0, .slice none 0 0] 24 (0, 0)) ∧ Own 3 55 (w.heap.size + 2) wr (.slice A3 cc.gates.length c3) cc.gates ∧ Below w.heap.size w wr)) (fun _ _ _ _ _ i _ => l.length - (intOf i).toNat)
  case atStart => exact ⟨0, c, 0, A3, c3, Nat.zero_le _, rfl, rfl, by omega, by omega, HS⟩
  case round =>
    clear HS A3 c3
    obtain ⟨j, cc, p, A3, c3, hj, rfl, rfl, hp0, hp8, HI⟩ := hrel
    by_cases hlt : j < l.length
    · obtain ⟨e1, e2, e3, e4, e5, e6⟩ := HI.out
      obtain ⟨b0, o0, B2, d2, hB0, k0, k1, k2, k3, hd2, hr2⟩ := (HH.out.2.1.bM e6).move j hlt
      obtain ⟨s, hs⟩ : ∃ s, l[j] = s := ⟨_, rfl⟩
      rw [hs] at k0 k1 k2 k3 hd2 hr2
      subst hB0
      obtain ⟨_, _, hx, hc3, hr3⟩ := e5.rd (by have := e2.len; omega) (fun g hg => by have := e2.wires g hg; omega)
      cases hx
      obtain ⟨y0, y1, y2, yf⟩ := cells3 e3
      have hbl := blk_lt e3
      have hlt1 := blk_lt e4
      have HD := Lib.hid (show followS cc p (l.drop j) = if (applyR cc s).1 = 0 then followS (applyR cc s).2.1 ((p + (applyR cc s).2.2) % 8) (l.drop (j + 1)) else ((applyR cc s).1, zeroC, 0) by
        rw [drop_cons l j hlt, hs]; rfl)
      have hx1 : ∀ o, Below w.heap.size w (wr.alloc o) := fun o => by (repeat (first|exact bR _ _|assumption|apply bN|apply bA|apply bD))
      have hx2 : ∀ o, Below wr.heap.size wr (wr.alloc o) := fun o => by (repeat (first|exact bR _ _|assumption|apply bN|apply bA|apply bD))
      have HR := Lib.hid (And.intro hr2 (And.intro hr3 (And.intro hx1 hx2)))
      have lb := cell_lt k0
      have hold := olds wr
      clear hs hr2 hr3 e1 e2 e3 e4 e5 e6 hx1 hx2
      go_wp2_with fail
      refine (apply_any A3 B2 c3 d2 cc s _ (Lib.hid (HT.out.below (HR.out.2.2.1 _))) (HR.out.2.1.bG (HR.out.2.2.2 _)) hc3 (HR.out.1.bI (HR.out.2.2.2 _)) HI.out.2.1).mono ?_
      obtain ⟨⟨er, c2, ph⟩, hx⟩ : ∃ x, applyR cc s = x := ⟨_, rfl⟩
      rw [hx]
      rintro e w2 ⟨v, rfl, ho, hb⟩
      obtain ⟨A9, c9, rfl, _⟩ := ho.form'
      have hbr := (HR.out.2.2.2 _).trans (hb.mono (by simp))
      have q1 := blk2 hbr HI.out.2.2.1
      have q2 := blk2 hbr HI.out.2.2.2.1
      obtain ⟨z0, z1, z2, zf⟩ := cells3 q1
      obtain ⟨r0, r1, r2, rf⟩ := cells3 q2
      have hbw2 := HI.out.2.2.2.2.2.trans (hbr.mono HI.out.2.2.2.2.2.size)
      have hsz2 := hbr.size
      have HO := Lib.hid (And.intro q1 (And.intro q2 (And.intro ho hbw2)))
      have hl2 := blk_lt q2
      have hl3 := blk_lt q1
      have hold2 := olds w2
      have hm1 : (w2.heap.size = w.heap.size + 1) = False := by simp; omega
      have hm2 : (w2.heap.size = b) = False := by simp; omega
      clear hb q1 q2 ho hbw2 hbr k0 k1 k2 k3 y0 y1 y2 yf hold
      by_cases he : er = 0
      · subst he
        have HF2 := Lib.hid (show followS cc p (l.drop j) = followS c2 ((p + ph) % 8) (l.drop (j + 1)) by
          rw [HD.out, hx]
          dsimp only
          rw [if_pos rfl])
        have hgd := step_good HI.out.2.1 hx
        have hph := applyR_phase (c := cc) (s := s) (by rw [hx])
        rw [hx] at hph
        dsimp only at hph
        obtain ⟨hph1, hph2⟩ := hph
        have HG2 := Lib.hid hgd.1
        clear hx hgd
        have hwr : IntKind.i64.wrap (p + ph) = p + ph := IntWalk.i64_in _ (by omega)
        have hmd : (p + ph).tmod 8 = (p + ph) % 8 := by rw [Int.tmod_eq_emod_of_nonneg (by omega)]
        have hwr2 : IntKind.i64.wrap ((p + ph) % 8) = (p + ph) % 8 := IntWalk.i64_in _ (by omega)
        dsimp only
        go_wp2
        go_roundw
        case rel =>
          have hne : w.heap.size + 1 ≠ b := by omega
          refine ⟨j + 1, c2, (p + ph) % 8, A9, c9, by omega, by go_num, rfl, by omega, by omega, Lib.hid ⟨HI.out.1.trans HF2.out, HG2.out, alloc_old (set3 HO.out.1), alloc_old ((heap_setCell_other _ _ _ _ hne).trans ((heap_setCell_other _ _ _ _ hne).trans ((heap_setCell_other _ _ _ _ hne).trans HO.out.2.1))), ?_, ?_⟩⟩
          · exact ((HO.out.2.2.1.setT3 HO.out.1 (by decide) (by decide)).below (below_alloc (Below.refl _ _) _)).weak (by simp; omega)
          · exact below_alloc (((HO.out.2.2.2.setCell (by first|(simp;done)|(simp;omega)|omega) _).setCell (by first|(simp;done)|(simp;omega)|omega) _).setCell (by first|(simp;done)|(simp;omega)|omega) _) _
        case measure => simp [intOf]; omega
      · have he1 : (er != 0) = true := by simpa using he
        have HF2 := Lib.hid (show followR c l = (er, zeroC, 0) by
          rw [HF.out, HI.out.1, HD.out, hx]
          dsimp only
          rw [if_neg he])
        clear hx he
        dsimp only
        go_wp2
        rw [HF2.out]
        refine bodyPost_ret (results_list (rs := [.cell 4 24, .tmp 5, .tmp 6]) rfl (by simp) (.cell (w.heap.size + 1) 24 _ _ _ rfl (alloc_old (set3 HO.out.2.1)) Tryz.underlying24 rfl (by kernel_rfl) (.tmp (.tmp .nil)))) rfl
          ⟨.slice none 0 0, rfl, own_nil _ _ _ _, ?_⟩
        exact below_alloc (((HO.out.2.2.2.setCell (by first|(simp;done)|(simp;omega)|omega) _).setCell (by first|(simp;done)|(simp;omega)|omega) _).setCell (by first|(simp;done)|(simp;omega)|omega) _) _
    · obtain ⟨e1, e2, e3, e4, e5, e6⟩ := HI.out
      obtain ⟨y0, y1, y2, yf⟩ := cells3 e3
      obtain ⟨r0, r1, r2, rf⟩ := cells3 e4
      have HO := Lib.hid (And.intro e4 (And.intro e5 e6))
      have HF2 := Lib.hid (show followR c l = (0, cc, p) by rw [HF.out, e1, drop_end l j (by omega)]; rfl)
      clear e1 e2 e3 e4 e5 e6
      go_wp2
      rw [HF2.out]
      refine bodyPost_ret (results_list (rs := [.cell 4 24, .tmp 5, .tmp 6]) rfl (by simp) (.cell (w.heap.size + 1) 24 _ _ _ rfl (set3 HO.out.1) Tryz.underlying24 rfl (by kernel_rfl) (.tmp (.tmp .nil)))) rfl
        ⟨.slice A3 cc.gates.length c3, rfl, ?_, ?_⟩
      · exact (((HO.out.2.1.setCell (by simp) _).setCell (by simp) _).setCell (by simp) _).weak (by omega)
      · exact ((HO.out.2.2.setCell (by first|(simp;done)|(simp;omega)|omega) _).setCell (by first|(simp;done)|(simp;omega)|omega) _).setCell (by first|(simp;done)|(simp;omega)|omega) _
end Go.Proofs.YtfommmijojfdbaaGreatDoor
