/- Part 43 of the proof that 'spoondriftlaw19.RulesApplies' holds for every input; it has no condition beyond the statement's own. -/
import Derived.Test.YtfommmijojfdbaaGreatDoorZ41
import Derived.Test.YtfommmijojfdbaaGreatDoorZ08
import Derived.Test.YtfommmijojfdbaaGreatDoorZ14
import Derived.Test.YtfommmijojfdbaaGreatDoorZ23
import Derived.Test.YtfommmijojfdbaaGreatDoorZ32
import Derived.Test.YtfommmijojfdbaaGreatDoorZ33
import Derived.Test.YtfommmijojfdbaaGreatDoorZ22
set_option linter.all false
namespace Go.Proofs.YtfommmijojfdbaaGreatDoor
open Go.RowKit
theorem ApplyR_small (c : C) (s : M) : (ApplyR c s).2.1.gates.length ≤ 1000000 ∧ ∀ g ∈ (ApplyR c s).2.1.gates, g.wires.length ≤ 1000000 := by
  have hz : ∀ x : Int × C × Int, x.2.1 = zeroC → x.2.1.gates.length ≤ 1000000 ∧ ∀ g ∈ x.2.1.gates, g.wires.length ≤ 1000000 := fun x h => by
    rw [h]; exact ⟨by simp [zeroC], fun g hg => by simp [zeroC] at hg⟩
  by_cases hG : plainE c = 0
  · by_cases h0 : (ApplyR c s).1 = 0
    · have e : ApplyR c s = applyR c s := by unfold ApplyR; rw [if_pos hG]
      rw [e] at h0 ⊢
      have := (step_good (c' := (applyR c s).2.1) (p := (applyR c s).2.2) (plainE_good.1 hG) (by rw [← h0])).1
      exact ⟨by have := this.len; omega, this.wires⟩
    · refine hz _ ?_
      unfold ApplyR at h0 ⊢
      rw [if_pos hG] at h0 ⊢
      unfold applyR at h0 ⊢
      split
      · rename_i hm
        rw [if_pos hm] at h0
        unfold stepR at h0 ⊢
        split
        · rename_i h43
          rw [if_pos h43] at h0
          unfold stepX at h0 ⊢
          split
          · rename_i hx; rw [if_pos hx] at h0; exact absurd rfl h0
          · rfl
        · rename_i h43
          rw [if_neg h43] at h0
          unfold stepN at h0 ⊢
          split
          · rfl
          · rename_i hx
            rw [if_neg hx] at h0
            split
            · rfl
            · rename_i hy; rw [if_neg hy] at h0; exact absurd rfl h0
      · rfl
  · refine hz _ ?_
    unfold ApplyR
    rw [if_neg hG]
theorem RdM.one' {b d : Nat} {W : World} {B : Option Addr} {s : M} {T : TypeId} (hb : W.heap[b]? = some (.cells #[.int .i64 s.rule, .int .i64 s.at_, .bool s.back, .slice B s.wires.length d] T (0, 0))) (hd : s.wires.length ≤ d) (h' : RdI W B s.wires) : RdM W (some ⟨b, 0, none⟩) [s] := by
  refine Rd.blk [[.int .i64 s.rule, .int .i64 s.at_, .bool s.back, .slice B s.wires.length d]] hb rfl (by simp) rfl (by simp) fun k x cs hx hc => ?_
  rcases k with _ | k
  · cases hx; cases hc; exact ⟨_, _, rfl, hd, h'⟩
  · simp at hc
theorem App.setM3 {ti tm B B' : Nat} {W : World} {v : Value} {xs : List M} (h : App (EMo ti B) tm 4 B' W v xs) {b : Nat} {x0 x1 x2 u0 u1 u2 : Value} {T' : TypeId} (hb : W.heap[b]? = some (.cells #[x0, x1, x2] T' (0, 0))) (h1 : ti ≠ T') (h2 : tm ≠ T') :
    App (EMo ti B) tm 4 B' (((W.setCell ⟨b, 0, none⟩ u0).setCell ⟨b, 1, none⟩ u1).setCell ⟨b, 2, none⟩ u2) v xs :=
  ((h.setT hb h2 (EMo.setT hb h1)).setT (heap_setCell_same _ _ 0 _ _ _ hb) h2 (EMo.setT (heap_setCell_same _ _ 0 _ _ _ hb) h1)).setT (heap_setCell_same _ _ 1 _ _ _ (heap_setCell_same _ _ 0 _ _ _ hb)) h2 (EMo.setT (heap_setCell_same _ _ 1 _ _ _ (heap_setCell_same _ _ 0 _ _ _ hb)) h1)
theorem App.rdM1 {ti tm B B' : Nat} {W : World} {A : Option Addr} {c : Nat} {s : M} (h : App (EMo ti B) tm 4 B' W (.slice A 1 c) [s]) (hs : s.wires.length ≤ 6) : RdM W A [s] := by
  obtain ⟨A', c', e, _, hr⟩ := h.rdM (by simp) (fun x hx => by rw [List.mem_singleton.1 hx]; omega)
  cases e
  exact hr
theorem Own.rdG {ti tg B : Nat} {W : World} {A : Option Addr} {k : Nat} {gs : List G} (h : Own ti tg B W (.slice A gs.length k) gs) (hl : gs.length ≤ 1000000) (hg : ∀ g ∈ gs, g.wires.length ≤ 1000000) : RdG W A gs := by
  obtain ⟨A', c', e, _, hr⟩ := h.rd (by omega) (fun g hx => by have := hg g hx; omega)
  cases e
  exact hr
def BoxesS (w W : World) (A B : Option Addr) (k d : Nat) (c : C) (s : M) : Prop :=
  W.heap[w.heap.size]? = some (.cells #[.int .i64 c.wires, .int .i64 c.bits, .slice A c.gates.length k] 24 (0, 0)) ∧ W.heap[w.heap.size + 1]? = some (.cells #[.int .i64 s.rule, .int .i64 s.at_, .bool s.back, .slice B s.wires.length d] 27 (0, 0)) ∧ Below w.heap.size w W
theorem BoxesS.below {w W W' : World} {A B : Option Addr} {k d : Nat} {c : C} {s : M} (h : BoxesS w W A B k d c s) (hb : Below W.heap.size W W') : BoxesS w W' A B k d c s := ⟨blk2 hb h.1, blk2 hb h.2.1, h.2.2.trans (hb.mono h.2.2.size)⟩
set_option maxRecDepth 1000000 in
set_option maxHeartbeats 8000000 in
theorem applies_any (A B : Option Addr) (k d : Nat) (c : C) (s : M) (w : World) (HT : Hid (Laid w)) (h : RdG w A c.gates) (hk : c.gates.length ≤ k) (h' : RdI w B s.wires) (hd : s.wires.length ≤ d) :
    Calls Tryz.prog 3 #[.agg #[.int .i64 c.wires, .int .i64 c.bits, .slice A c.gates.length k], .agg #[.int .i64 s.rule, .int .i64 s.at_, .bool s.back, .slice B s.wires.length d]] w fun e w' => e = .returned (.bool true) ∧ Below w.heap.size w w' := by
  have HH := Lib.hid (And.intro h (And.intro h' (And.intro hk hd)))
  clear h h' hk hd
  go_enter Tryz.func3, Tryz.ntmps3
  go_upto_region 1 with fail
  obtain ⟨W1, hW1⟩ : ∃ W1, (w.alloc (.cells #[.int .i64 c.wires, .int .i64 c.bits, .slice A c.gates.length k] 24)).alloc (.cells #[.int .i64 s.rule, .int .i64 s.at_, .bool s.back, .slice B s.wires.length d] 27) = W1 := ⟨_, rfl⟩
  have HP := Lib.hid (show BoxesS w W1 A B k d c s from ⟨by rw [← hW1]; exact alloc_old (blk_alloc _ _ _ rfl), by rw [← hW1]; exact blk_alloc _ _ _ (by simp), by rw [← hW1]; (repeat (first|exact bR _ _|assumption|apply bN|apply bA|apply bD))⟩)
  rw [hW1]
  clear hW1
  obtain ⟨a0, a1, a2, af⟩ := cells3 HP.out.1
  obtain ⟨b0, b1, b2, b3, bf⟩ := cells4 HP.out.2.1
  have la := blk_lt HP.out.1
  have lb := blk_lt HP.out.2.1
  have hold := olds W1
  obtain ⟨q, hq⟩ : ∃ q, greatC c = q := ⟨_, rfl⟩
  have hg := Great_any A k c W1 (HH.out.1.bG HP.out.2.2)
  rw [hq] at hg
  go_wp2_with fail
  refine hg.mono ?_
  clear hg
  rintro e w2 ⟨rfl, hb⟩
  replace HP := Lib.hid (HP.out.below hb)
  clear a0 a1 a2 af b0 b1 b2 b3 bf la lb hold
  clear hb
  cases q with
  | true =>
    clear hq
    go_wp2_with fail
    refine (awake_any _ (Lib.hid (HT.out.below HP.out.2.2))).mono ?_
    rintro e w99 ⟨rfl, hb⟩
    replace HP := Lib.hid (HP.out.below hb)
    clear hb
    go_wp2
    go_ret
    exact ⟨rfl, HP.out.2.2⟩
  | false =>
  have HC := Lib.hid (show c.gates.length ≤ 130 ∧ ∀ g ∈ c.gates, g.wires.length ≤ 6 from by
    unfold greatC at hq
    rw [Bool.or_eq_false_iff, decide_eq_false_iff_not, List.any_eq_false] at hq
    exact ⟨by omega, fun g hg => by have := hq.2 g hg; simpa using this⟩)
  clear hq
  obtain ⟨a0, a1, a2, af⟩ := cells3 HP.out.1
  obtain ⟨b0, b1, b2, b3, bf⟩ := cells4 HP.out.2.1
  have la := blk_lt HP.out.1
  have lb := blk_lt HP.out.2.1
  have hold := olds w2
  go_wp2_with fail
  obtain ⟨W3, hW3⟩ : ∃ W3, w2.alloc (.cells #[.int .i64 s.rule, .int .i64 s.at_, .bool s.back, .slice B s.wires.length d] 27) = W3 := ⟨_, rfl⟩
  have hb3 : Below w2.heap.size w2 W3 := by rw [← hW3]; (repeat (first|exact bR _ _|assumption|apply bN|apply bA|apply bD))
  have x3 : W3.heap[w2.heap.size]? = some (.cells #[.int .i64 s.rule, .int .i64 s.at_, .bool s.back, .slice B s.wires.length d] 27 (0, 0)) := by rw [← hW3]; exact blk_alloc _ _ _ rfl
  rw [hW3]
  clear hW3
  replace HP := Lib.hid (HP.out.below hb3)
  clear hb3
  clear a0 a1 a2 af b0 b1 b2 b3 bf la lb hold
  obtain ⟨q, hq⟩ : ∃ q, greatM [s] = q := ⟨_, rfl⟩
  have hg := great_any (some ⟨w2.heap.size, 0, none⟩) 1 1 [s] W3 (RdM.one' x3 HH.out.2.2.2 (HH.out.2.1.bI HP.out.2.2)) rfl
  rw [hq] at hg
  refine hg.mono ?_
  clear hg x3
  rintro e w4 ⟨rfl, hb⟩
  replace HP := Lib.hid (HP.out.below hb)
  clear hb
  cases q with
  | true =>
    clear hq
    go_wp2_with fail
    refine (awake_any _ (Lib.hid (HT.out.below HP.out.2.2))).mono ?_
    rintro e w99 ⟨rfl, hb⟩
    replace HP := Lib.hid (HP.out.below hb)
    clear hb
    go_wp2
    go_ret
    exact ⟨rfl, HP.out.2.2⟩
  | false =>
  have HS := Lib.hid (show s.wires.length ≤ 6 from by
    unfold greatM at hq
    rw [Bool.or_eq_false_iff, decide_eq_false_iff_not, List.any_eq_false] at hq
    simpa using hq.2 s (by simp))
  clear hq
  obtain ⟨a0, a1, a2, af⟩ := cells3 HP.out.1
  obtain ⟨b0, b1, b2, b3, bf⟩ := cells4 HP.out.2.1
  have la := blk_lt HP.out.1
  have lb := blk_lt HP.out.2.1
  have hold := olds w4
  go_upto_region 3 with fail
  have hz4 := lb
  have hn1 : (w4.heap.size = w.heap.size) = False := by simp; omega
  have hn2 : (w4.heap.size = w.heap.size + 1) = False := by simp; omega
  have hn3 : (w4.heap.size + 1 = w.heap.size) = False := by simp; omega
  have hn4 : (w4.heap.size + 1 = w.heap.size + 1) = False := by simp; omega
  go_cut [5, 6] (fun p st wx => ∃ b A3 c3 A6 c6, p = .pointer (some ⟨b, 0, none⟩) ∧ st = .slice A6 1 c6 ∧ Hid (wx.heap[b]? = some (.cells #[.int .i64 c.wires, .int .i64 c.bits, .slice A3 c.gates.length c3] 24 (0, 0)) ∧ RdG wx A3 c.gates ∧ c.gates.length ≤ c3 ∧ RdM wx A6 [s] ∧ Below w4.heap.size w4 wx))
  case first =>
    refine wp_region_st (by kernel_rfl) (.op 0 (.op 2 (.alt true 1 (.alt true 3 (.alt true 4 (.alt true 5 (.alt true 6 (.op 7 .fin) .stop) .stop) (.alt false 5 (.alt true 4 (.alt true 6 (.op 7 .fin) .stop) .stop) .stop)) (.alt false 5 (.alt true 3 (.alt true 4 (.alt true 6 (.op 7 .fin) .stop) .stop) .stop) .stop)) (.alt false 3 (.alt true 1 (.alt true 4 (.alt true 5 (.alt true 6 (.op 7 .fin) .stop) .stop) (.alt false 5 (.alt true 4 (.alt true 6 (.op 7 .fin) .stop) .stop) .stop)) (.alt false 5 (.alt true 1 (.alt true 4 (.alt true 6 (.op 7 .fin) .stop) .stop) .stop) .stop)) (.alt false 5 (.alt true 1 (.alt true 3 (.alt true 4 (.alt true 6 (.op 7 .fin) .stop) .stop) .stop) (.alt false 3 (.alt true 1 (.alt true 4 (.alt true 6 (.op 7 .fin) .stop) .stop) .stop) .stop)) .stop))))) (by kernel_rfl) (by kernel_rfl) (by kernel_rfl) ?_
    refine ST.l (v := ?v1_3_0_1) rfl rfl rfl ?h1_3_0_1 ?r1_3_0_1
    case h1_3_0_1 => (first|(go_simp;done)|(go_simp;with_reducible rfl)|(go_simp;constructor<;>with_reducible rfl))
    simp only [Act.put, pA, pB, pC]
    refine ST.l (v := ?v1_3_2_2) rfl rfl rfl ?h1_3_2_2 ?r1_3_2_2
    case h1_3_2_2 => (first|(go_simp;done)|(go_simp;with_reducible rfl)|(go_simp;constructor<;>with_reducible rfl))
    simp only [Act.put, pA, pB, pC]
    refine ST.c rfl rfl (by first|(go_simp;done)|(go_simp;with_reducible rfl)|(go_simp;exact ⟨⟨rfl, rfl⟩, rfl⟩)) ?c1_3_1_41 ?x1_3_1_41
    case c1_3_1_41 =>
     obtain ⟨V, hV⟩ : ∃ V, w4.drew = V := ⟨_, rfl⟩
     rw [hV]
     have hb3 : Below w4.heap.size w4 V := by rw [← hV]; (repeat (first|exact bR _ _|assumption|apply bN|apply bA|apply bD))
     clear hV
     refine (kOwn_any A k c V (HH.out.1.bG (HP.out.below hb3).2.2) (fun g hg => by have := HC.out.2 g hg; omega) (by have := HC.out.1; omega)).mono ?_
     rintro e w5 ⟨v5, rfl, ho, hb⟩
     obtain ⟨A3, c3, rfl, hc3⟩ := ho.form'
     have hb25 : Below w4.heap.size w4 w5 := hb3.trans (hb.mono hb3.size)
     have HQ := Lib.hid (show BoxesS w w5 A B k d c s ∧ Own 3 55 V.heap.size w5 (.slice A3 c.gates.length c3) c.gates ∧ c.gates.length ≤ c3 ∧ Below w4.heap.size w4 w5 from ⟨HP.out.below hb25, ho, hc3, hb25⟩)
     clear ho hb hb3 hb25 hc3 HP
     have HP := Lib.hid HQ.out.1
     have hs5 := HQ.out.2.2.2.size
     clear a0 a1 a2 af b0 b1 b2 b3 bf la lb hold
     obtain ⟨a0, a1, a2, af⟩ := cells3 HP.out.1
     obtain ⟨b0, b1, b2, b3, bf⟩ := cells4 HP.out.2.1
     have la := blk_lt HP.out.1
     have lb := blk_lt HP.out.2.1
     have hold := olds w5
     have hn5 : (w5.heap.size = w.heap.size) = False := by simp; omega
     have hn6 : (w5.heap.size = w.heap.size + 1) = False := by simp; omega
     have hn7 : (w5.heap.size + 1 = w.heap.size) = False := by simp; omega
     have hn8 : (w5.heap.size + 1 = w.heap.size + 1) = False := by simp; omega
     refine ⟨_, rfl, ?_, ?_⟩
     · exact ⟨(fun _ => ⟨_, drop_at rfl, by (first|(go_simp;done)|(go_simp;with_reducible rfl))⟩), (nw (by kernel_rfl)), trivial⟩
     simp only [Act.put, pA, pB, pC]
     refine ST.v (v := ?v1_3_3_15) (w' := ?w1_3_3_15) rfl rfl ?h1_3_3_15 ?s1_3_3_15 ?r1_3_3_15 ?x1_3_3_15
     case h1_3_3_15 => (first|(go_simp;done)|(go_simp;with_reducible rfl)|(go_simp;constructor<;>with_reducible rfl))
     case s1_3_3_15 => exact ⟨(nw (by kernel_rfl)), (fun _ => ⟨_, drop_at rfl, by (first|(go_simp;done)|(go_simp;with_reducible rfl))⟩), trivial⟩
     case r1_3_3_15 =>
      simp only [Act.put, pA, pB, pC]
      refine ST.c rfl rfl (by first|(go_simp;done)|(go_simp;with_reducible rfl)|(go_simp;exact ⟨⟨rfl, rfl⟩, rfl⟩)) ?c1_3_4_9 ?x1_3_4_9
      case c1_3_4_9 =>
       obtain ⟨V6, hV⟩ : ∃ V6, w5.alloc (.cells #[.int .i64 s.rule, .int .i64 s.at_, .bool s.back, .slice B s.wires.length d] 27) = V6 := ⟨_, rfl⟩
       rw [hV]
       have hb6 : Below w5.heap.size w5 V6 := by rw [← hV]; (repeat (first|exact bR _ _|assumption|apply bN|apply bA|apply bD))
       have x3 : V6.heap[w5.heap.size]? = some (.cells #[.int .i64 s.rule, .int .i64 s.at_, .bool s.back, .slice B s.wires.length d] 27 (0, 0)) := by rw [← hV]; first | exact blk_alloc _ _ _ (by simp) | exact alloc_old (blk_alloc _ _ _ (by simp))
       clear hV
       refine (rOwnM_any _ 1 _ [s] V6 (RdM.one' x3 HH.out.2.2.2 (HH.out.2.1.bI (HP.out.below hb6).2.2)) rfl (fun g hg => by rw [List.mem_singleton.1 hg]; have := HS.out; omega) (by simp)).mono ?_
       rintro e w6 ⟨v6, rfl, hm, hb⟩
       obtain ⟨A6, c6, rfl, hc6⟩ := hm.form
       rw [List.length_singleton] at hm ⊢
       have hb56 : Below w5.heap.size w5 w6 := hb6.trans (hb.mono hb6.size)
       have hb26 : Below w4.heap.size w4 w6 := HQ.out.2.2.2.trans (hb56.mono HQ.out.2.2.2.size)
       have HR := Lib.hid (show Own 3 55 V.heap.size w6 (.slice A3 c.gates.length c3) c.gates ∧ c.gates.length ≤ c3 ∧ App (EMo 3 V6.heap.size) 27 4 V6.heap.size w6 (.slice A6 1 c6) [s] ∧ Below w4.heap.size w4 w6 from ⟨HQ.out.2.1.below hb56, HQ.out.2.2.1, hm, hb26⟩)
       replace HP := Lib.hid (HP.out.below hb56)
       have hs6 := hb26.size
       clear x3 hm hc6 hb6 hb hb56 hb26 HQ
       clear a0 a1 a2 af b0 b1 b2 b3 bf la lb hold
       obtain ⟨a0, a1, a2, af⟩ := cells3 HP.out.1
       obtain ⟨b0, b1, b2, b3, bf⟩ := cells4 HP.out.2.1
       have la := blk_lt HP.out.1
       have lb := blk_lt HP.out.2.1
       have hold := olds w6
       have hn9 : (w6.heap.size = w.heap.size) = False := by simp; omega
       have hn10 : (w6.heap.size = w.heap.size + 1) = False := by simp; omega
       refine ⟨_, rfl, ?_, ?_⟩
       · exact ⟨(fun _ => ⟨_, drop_at rfl, by (first|(go_simp;done)|(go_simp;with_reducible rfl))⟩), (fun _ => ⟨_, drop_at rfl, by (first|(go_simp;done)|(go_simp;with_reducible rfl))⟩), trivial⟩
       simp only [Act.put, pA, pB, pC]
       refine ST.v (v := ?v1_3_5_5) (w' := ?w1_3_5_5) rfl rfl ?h1_3_5_5 ?s1_3_5_5 ?r1_3_5_5 ?x1_3_5_5
       case h1_3_5_5 => (first|(go_simp;done)|(go_simp;with_reducible rfl)|(go_simp;constructor<;>with_reducible rfl))
       case s1_3_5_5 => exact ⟨(fun _ => ⟨_, drop_at rfl, by (first|(go_simp;done)|(go_simp;with_reducible rfl))⟩), (fun _ => ⟨_, drop_at rfl, by (first|(go_simp;done)|(go_simp;with_reducible rfl))⟩), trivial⟩
       case x1_3_5_5 => exact ST.stop
       simp only [Act.put, pA, pB, pC]
       refine ST.k (w' := ?w1_3_6_4) rfl rfl ?h1_3_6_4 ?s1_3_6_4 ?r1_3_6_4 ?x1_3_6_4
       case h1_3_6_4 => (first|(go_simp;done)|(go_simp;with_reducible rfl)|(go_simp;constructor<;>with_reducible rfl))
       case s1_3_6_4 => exact ⟨(fun _ => ⟨_, drop_at rfl, by (first|(go_simp;done)|(go_simp;with_reducible rfl))⟩), (nw (by kernel_rfl)), trivial⟩
       case x1_3_6_4 => exact ST.stop
       simp only [Act.put, pA, pB, pC]
       refine ST.p (v := ?v1_3_7_3) rfl rfl rfl (fun W => ?h1_3_7_3) ?r1_3_7_3
       case h1_3_7_3 => (first|(go_simp;done)|(go_simp;with_reducible rfl)|(go_simp;constructor<;>with_reducible rfl))
       simp only [Act.put, pA, pB, pC]
       simp only [ST]
       go_wp2
       go_meet
       exact ⟨_, A3, c3, A6, c6, rfl, rfl, Lib.hid ⟨blk_alloc _ _ _ rfl, Own.rdG (HR.out.1.below (below_alloc (Below.refl _ _) _)) (by have := HC.out.1; omega) (fun g hg => by have := HC.out.2 g hg; omega), HR.out.2.1, App.rdM1 (HR.out.2.2.1.below (EMo.stays _ _) (below_alloc (Below.refl _ _) _)) HS.out, by have := HR.out.2.2.2; (repeat (first|exact bR _ _|assumption|apply bN|apply bA|apply bD))⟩⟩
      case' x1_3_4_9 => skip
      refine ST.v (v := ?v1_3_5_10) (w' := ?w1_3_5_10) rfl rfl ?h1_3_5_10 ?s1_3_5_10 ?r1_3_5_10 ?x1_3_5_10
      case h1_3_5_10 => (first|(go_simp;done)|(go_simp;with_reducible rfl)|(go_simp;constructor<;>with_reducible rfl))
      case s1_3_5_10 => exact ⟨(fun _ => ⟨_, drop_at rfl, by (first|(go_simp;done)|(go_simp;with_reducible rfl))⟩), (fun _ => ⟨_, drop_at rfl, by (first|(go_simp;done)|(go_simp;with_reducible rfl))⟩), trivial⟩
      case r1_3_5_10 =>
       simp only [Act.put, pA, pB, pC]
       refine ST.c rfl rfl (by first|(go_simp;done)|(go_simp;with_reducible rfl)|(go_simp;exact ⟨⟨rfl, rfl⟩, rfl⟩)) ?c1_3_4_8 ?x1_3_4_8
       case x1_3_4_8 => exact ST.stop
       obtain ⟨V6, hV⟩ : ∃ V6, (w5.alloc (.cells #[.int .i64 s.rule, .int .i64 s.at_, .bool s.back, .slice B s.wires.length d] 27)).alloc (.cells #[.int .i64 0, .int .i64 0, .slice none 0 0] 24) = V6 := ⟨_, rfl⟩
       rw [hV]
       have hb6 : Below w5.heap.size w5 V6 := by rw [← hV]; (repeat (first|exact bR _ _|assumption|apply bN|apply bA|apply bD))
       have x3 : V6.heap[w5.heap.size]? = some (.cells #[.int .i64 s.rule, .int .i64 s.at_, .bool s.back, .slice B s.wires.length d] 27 (0, 0)) := by rw [← hV]; first | exact blk_alloc _ _ _ (by simp) | exact alloc_old (blk_alloc _ _ _ (by simp))
       have x5 : V6.heap[w5.heap.size + 1]? = some (.cells #[.int .i64 0, .int .i64 0, .slice none 0 0] 24 (0, 0)) := by rw [← hV]; exact blk_alloc _ _ _ (by simp)
       clear hV
       refine (rOwnM_any _ 1 _ [s] V6 (RdM.one' x3 HH.out.2.2.2 (HH.out.2.1.bI (HP.out.below hb6).2.2)) rfl (fun g hg => by rw [List.mem_singleton.1 hg]; have := HS.out; omega) (by simp)).mono ?_
       rintro e w6 ⟨v6, rfl, hm, hb⟩
       obtain ⟨A6, c6, rfl, hc6⟩ := hm.form
       rw [List.length_singleton] at hm ⊢
       have hb56 : Below w5.heap.size w5 w6 := hb6.trans (hb.mono hb6.size)
       have hb26 : Below w4.heap.size w4 w6 := HQ.out.2.2.2.trans (hb56.mono HQ.out.2.2.2.size)
       have HR := Lib.hid (show Own 3 55 V.heap.size w6 (.slice A3 c.gates.length c3) c.gates ∧ c.gates.length ≤ c3 ∧ App (EMo 3 V6.heap.size) 27 4 V6.heap.size w6 (.slice A6 1 c6) [s] ∧ Below w4.heap.size w4 w6 from ⟨HQ.out.2.1.below hb56, HQ.out.2.2.1, hm, hb26⟩)
       replace x5 := blk2 hb x5
       have HY5 := Lib.hid x5
       obtain ⟨t0, t1, t2, tf⟩ := cells3 x5
       have lt := blk_lt x5
       clear x5
       replace HP := Lib.hid (HP.out.below hb56)
       have hs6 := hb26.size
       clear x3 hm hc6 hb6 hb hb56 hb26 HQ
       clear a0 a1 a2 af b0 b1 b2 b3 bf la lb hold
       obtain ⟨a0, a1, a2, af⟩ := cells3 HP.out.1
       obtain ⟨b0, b1, b2, b3, bf⟩ := cells4 HP.out.2.1
       have la := blk_lt HP.out.1
       have lb := blk_lt HP.out.2.1
       have hold := olds w6
       have hn9 : (w6.heap.size = w.heap.size) = False := by simp; omega
       have hn10 : (w6.heap.size = w.heap.size + 1) = False := by simp; omega
       refine ⟨_, rfl, ?_, ?_⟩
       · exact ⟨(fun _ => ⟨_, drop_at rfl, by (first|(go_simp;done)|(go_simp;with_reducible rfl))⟩), (fun _ => ⟨_, drop_at rfl, by (first|(go_simp;done)|(go_simp;with_reducible rfl))⟩), trivial⟩
       simp only [Act.put, pA, pB, pC]
       refine ST.k (w' := ?w1_3_6_7) rfl rfl ?h1_3_6_7 ?s1_3_6_7 ?r1_3_6_7 ?x1_3_6_7
       case h1_3_6_7 => (first|(go_simp;done)|(go_simp;with_reducible rfl)|(go_simp;constructor<;>with_reducible rfl))
       case s1_3_6_7 => exact ⟨(fun _ => ⟨_, drop_at rfl, by (first|(go_simp;done)|(go_simp;with_reducible rfl))⟩), (nw (by kernel_rfl)), trivial⟩
       case x1_3_6_7 => exact ST.stop
       simp only [Act.put, pA, pB, pC]
       refine ST.p (v := ?v1_3_7_6) rfl rfl rfl (fun W => ?h1_3_7_6) ?r1_3_7_6
       case h1_3_7_6 => (first|(go_simp;done)|(go_simp;with_reducible rfl)|(go_simp;constructor<;>with_reducible rfl))
       simp only [Act.put, pA, pB, pC]
       simp only [ST]
       go_wp2
       go_meet
       exact ⟨_, A3, c3, A6, c6, rfl, rfl, Lib.hid ⟨set3 HY5.out, Own.rdG ((HR.out.1.setT3 HY5.out (by decide) (by decide))) (by have := HC.out.1; omega) (fun g hg => by have := HC.out.2 g hg; omega), HR.out.2.1, (HR.out.2.2.1.setM3 HY5.out (by decide) (by decide)).rdM1 HS.out, ((HR.out.2.2.2.setCell (by simp; try omega) _).setCell (by simp; try omega) _).setCell (by simp; try omega) _⟩⟩
      case x1_3_5_10 => exact ST.stop
     case' x1_3_3_15 => skip
     refine ST.v (v := ?v1_3_5_16) (w' := ?w1_3_5_16) rfl rfl ?h1_3_5_16 ?s1_3_5_16 ?r1_3_5_16 ?x1_3_5_16
     case h1_3_5_16 => (first|(go_simp;done)|(go_simp;with_reducible rfl)|(go_simp;constructor<;>with_reducible rfl))
     case s1_3_5_16 => exact ⟨(fun _ => ⟨_, drop_at rfl, by (first|(go_simp;done)|(go_simp;with_reducible rfl))⟩), (fun _ => ⟨_, drop_at rfl, by (first|(go_simp;done)|(go_simp;with_reducible rfl))⟩), trivial⟩
     case r1_3_5_16 =>
      simp only [Act.put, pA, pB, pC]
      refine ST.v (v := ?v1_3_3_14) (w' := ?w1_3_3_14) rfl rfl ?h1_3_3_14 ?s1_3_3_14 ?r1_3_3_14 ?x1_3_3_14
      case h1_3_3_14 => (first|(go_simp;done)|(go_simp;with_reducible rfl)|(go_simp;constructor<;>with_reducible rfl))
      case s1_3_3_14 => exact ⟨(nw (by kernel_rfl)), (fun _ => ⟨_, drop_at rfl, by (first|(go_simp;done)|(go_simp;with_reducible rfl))⟩), trivial⟩
      case x1_3_3_14 => exact ST.stop
      simp only [Act.put, pA, pB, pC]
      refine ST.c rfl rfl (by first|(go_simp;done)|(go_simp;with_reducible rfl)|(go_simp;exact ⟨⟨rfl, rfl⟩, rfl⟩)) ?c1_3_4_13 ?x1_3_4_13
      case x1_3_4_13 => exact ST.stop
      obtain ⟨V6, hV⟩ : ∃ V6, (w5.alloc (.cells #[.int .i64 0, .int .i64 0, .slice none 0 0] 24)).alloc (.cells #[.int .i64 s.rule, .int .i64 s.at_, .bool s.back, .slice B s.wires.length d] 27) = V6 := ⟨_, rfl⟩
      rw [hV]
      have hb6 : Below w5.heap.size w5 V6 := by rw [← hV]; (repeat (first|exact bR _ _|assumption|apply bN|apply bA|apply bD))
      have x3 : V6.heap[w5.heap.size + 1]? = some (.cells #[.int .i64 s.rule, .int .i64 s.at_, .bool s.back, .slice B s.wires.length d] 27 (0, 0)) := by rw [← hV]; exact blk_alloc _ _ _ (by simp)
      have x5 : V6.heap[w5.heap.size]? = some (.cells #[.int .i64 0, .int .i64 0, .slice none 0 0] 24 (0, 0)) := by rw [← hV]; first | exact blk_alloc _ _ _ (by simp) | exact alloc_old (blk_alloc _ _ _ (by simp))
      clear hV
      refine (rOwnM_any _ 1 _ [s] V6 (RdM.one' x3 HH.out.2.2.2 (HH.out.2.1.bI (HP.out.below hb6).2.2)) rfl (fun g hg => by rw [List.mem_singleton.1 hg]; have := HS.out; omega) (by simp)).mono ?_
      rintro e w6 ⟨v6, rfl, hm, hb⟩
      obtain ⟨A6, c6, rfl, hc6⟩ := hm.form
      rw [List.length_singleton] at hm ⊢
      have hb56 : Below w5.heap.size w5 w6 := hb6.trans (hb.mono hb6.size)
      have hb26 : Below w4.heap.size w4 w6 := HQ.out.2.2.2.trans (hb56.mono HQ.out.2.2.2.size)
      have HR := Lib.hid (show Own 3 55 V.heap.size w6 (.slice A3 c.gates.length c3) c.gates ∧ c.gates.length ≤ c3 ∧ App (EMo 3 V6.heap.size) 27 4 V6.heap.size w6 (.slice A6 1 c6) [s] ∧ Below w4.heap.size w4 w6 from ⟨HQ.out.2.1.below hb56, HQ.out.2.2.1, hm, hb26⟩)
      replace x5 := blk2 hb x5
      have HY5 := Lib.hid x5
      obtain ⟨t0, t1, t2, tf⟩ := cells3 x5
      have lt := blk_lt x5
      clear x5
      replace HP := Lib.hid (HP.out.below hb56)
      have hs6 := hb26.size
      clear x3 hm hc6 hb6 hb hb56 hb26 HQ
      clear a0 a1 a2 af b0 b1 b2 b3 bf la lb hold
      obtain ⟨a0, a1, a2, af⟩ := cells3 HP.out.1
      obtain ⟨b0, b1, b2, b3, bf⟩ := cells4 HP.out.2.1
      have la := blk_lt HP.out.1
      have lb := blk_lt HP.out.2.1
      have hold := olds w6
      have hn9 : (w6.heap.size = w.heap.size) = False := by simp; omega
      have hn10 : (w6.heap.size = w.heap.size + 1) = False := by simp; omega
      refine ⟨_, rfl, ?_, ?_⟩
      · exact ⟨(fun _ => ⟨_, drop_at rfl, by (first|(go_simp;done)|(go_simp;with_reducible rfl))⟩), (fun _ => ⟨_, drop_at rfl, by (first|(go_simp;done)|(go_simp;with_reducible rfl))⟩), trivial⟩
      simp only [Act.put, pA, pB, pC]
      refine ST.k (w' := ?w1_3_6_12) rfl rfl ?h1_3_6_12 ?s1_3_6_12 ?r1_3_6_12 ?x1_3_6_12
      case h1_3_6_12 => (first|(go_simp;done)|(go_simp;with_reducible rfl)|(go_simp;constructor<;>with_reducible rfl))
      case s1_3_6_12 => exact ⟨(fun _ => ⟨_, drop_at rfl, by (first|(go_simp;done)|(go_simp;with_reducible rfl))⟩), (nw (by kernel_rfl)), trivial⟩
      case x1_3_6_12 => exact ST.stop
      simp only [Act.put, pA, pB, pC]
      refine ST.p (v := ?v1_3_7_11) rfl rfl rfl (fun W => ?h1_3_7_11) ?r1_3_7_11
      case h1_3_7_11 => (first|(go_simp;done)|(go_simp;with_reducible rfl)|(go_simp;constructor<;>with_reducible rfl))
      simp only [Act.put, pA, pB, pC]
      simp only [ST]
      go_wp2
      go_meet
      exact ⟨_, A3, c3, A6, c6, rfl, rfl, Lib.hid ⟨set3 HY5.out, Own.rdG ((HR.out.1.setT3 HY5.out (by decide) (by decide))) (by have := HC.out.1; omega) (fun g hg => by have := HC.out.2 g hg; omega), HR.out.2.1, (HR.out.2.2.1.setM3 HY5.out (by decide) (by decide)).rdM1 HS.out, ((HR.out.2.2.2.setCell (by simp; try omega) _).setCell (by simp; try omega) _).setCell (by simp; try omega) _⟩⟩
     case x1_3_5_16 => exact ST.stop
    case' x1_3_1_41 => skip
    refine ST.v (v := ?v1_3_3_42) (w' := ?w1_3_3_42) rfl rfl ?h1_3_3_42 ?s1_3_3_42 ?r1_3_3_42 ?x1_3_3_42
    case h1_3_3_42 => (first|(go_simp;done)|(go_simp;with_reducible rfl)|(go_simp;constructor<;>with_reducible rfl))
    case s1_3_3_42 => exact ⟨(nw (by kernel_rfl)), (fun _ => ⟨_, drop_at rfl, by (first|(go_simp;done)|(go_simp;with_reducible rfl))⟩), trivial⟩
    case r1_3_3_42 =>
     simp only [Act.put, pA, pB, pC]
     refine ST.c rfl rfl (by first|(go_simp;done)|(go_simp;with_reducible rfl)|(go_simp;exact ⟨⟨rfl, rfl⟩, rfl⟩)) ?c1_3_1_29 ?x1_3_1_29
     case c1_3_1_29 =>
      obtain ⟨V, hV⟩ : ∃ V, (w4.alloc (.cells #[.int .i64 s.rule, .int .i64 s.at_, .bool s.back, .slice B s.wires.length d] 27)).drew = V := ⟨_, rfl⟩
      rw [hV]
      have hb3 : Below w4.heap.size w4 V := by rw [← hV]; (repeat (first|exact bR _ _|assumption|apply bN|apply bA|apply bD))
      have x3 : V.heap[w4.heap.size]? = some (.cells #[.int .i64 s.rule, .int .i64 s.at_, .bool s.back, .slice B s.wires.length d] 27 (0, 0)) := by rw [← hV]; first | exact blk_alloc _ _ _ (by simp) | exact alloc_old (blk_alloc _ _ _ (by simp))
      clear hV
      refine (kOwn_any A k c V (HH.out.1.bG (HP.out.below hb3).2.2) (fun g hg => by have := HC.out.2 g hg; omega) (by have := HC.out.1; omega)).mono ?_
      rintro e w5 ⟨v5, rfl, ho, hb⟩
      obtain ⟨A3, c3, rfl, hc3⟩ := ho.form'
      have hb25 : Below w4.heap.size w4 w5 := hb3.trans (hb.mono hb3.size)
      have HX3 := Lib.hid (blk2 hb x3)
      have HQ := Lib.hid (show BoxesS w w5 A B k d c s ∧ Own 3 55 V.heap.size w5 (.slice A3 c.gates.length c3) c.gates ∧ c.gates.length ≤ c3 ∧ Below w4.heap.size w4 w5 from ⟨HP.out.below hb25, ho, hc3, hb25⟩)
      clear x3
      clear ho hb hb3 hb25 hc3 HP
      have HP := Lib.hid HQ.out.1
      have hs5 := HQ.out.2.2.2.size
      clear a0 a1 a2 af b0 b1 b2 b3 bf la lb hold
      obtain ⟨a0, a1, a2, af⟩ := cells3 HP.out.1
      obtain ⟨b0, b1, b2, b3, bf⟩ := cells4 HP.out.2.1
      have la := blk_lt HP.out.1
      have lb := blk_lt HP.out.2.1
      have hold := olds w5
      have hn5 : (w5.heap.size = w.heap.size) = False := by simp; omega
      have hn6 : (w5.heap.size = w.heap.size + 1) = False := by simp; omega
      have hn7 : (w5.heap.size + 1 = w.heap.size) = False := by simp; omega
      have hn8 : (w5.heap.size + 1 = w.heap.size + 1) = False := by simp; omega
      refine ⟨_, rfl, ?_, ?_⟩
      · exact ⟨(fun _ => ⟨_, drop_at rfl, by (first|(go_simp;done)|(go_simp;with_reducible rfl))⟩), (nw (by kernel_rfl)), trivial⟩
      simp only [Act.put, pA, pB, pC]
      refine ST.c rfl rfl (by first|(go_simp;done)|(go_simp;with_reducible rfl)|(go_simp;exact ⟨⟨rfl, rfl⟩, rfl⟩)) ?c1_3_4_23 ?x1_3_4_23
      case c1_3_4_23 =>
       obtain ⟨V6, hV⟩ : ∃ V6, w5 = V6 := ⟨_, rfl⟩
       rw [hV]
       have hb6 : Below w5.heap.size w5 V6 := by rw [← hV]; (repeat (first|exact bR _ _|assumption|apply bN|apply bA|apply bD))
       have x3 := blk2 hb6 HX3.out
       clear hV
       refine (rOwnM_any _ 1 _ [s] V6 (RdM.one' x3 HH.out.2.2.2 (HH.out.2.1.bI (HP.out.below hb6).2.2)) rfl (fun g hg => by rw [List.mem_singleton.1 hg]; have := HS.out; omega) (by simp)).mono ?_
       rintro e w6 ⟨v6, rfl, hm, hb⟩
       obtain ⟨A6, c6, rfl, hc6⟩ := hm.form
       rw [List.length_singleton] at hm ⊢
       have hb56 : Below w5.heap.size w5 w6 := hb6.trans (hb.mono hb6.size)
       have hb26 : Below w4.heap.size w4 w6 := HQ.out.2.2.2.trans (hb56.mono HQ.out.2.2.2.size)
       have HR := Lib.hid (show Own 3 55 V.heap.size w6 (.slice A3 c.gates.length c3) c.gates ∧ c.gates.length ≤ c3 ∧ App (EMo 3 V6.heap.size) 27 4 V6.heap.size w6 (.slice A6 1 c6) [s] ∧ Below w4.heap.size w4 w6 from ⟨HQ.out.2.1.below hb56, HQ.out.2.2.1, hm, hb26⟩)
       replace HP := Lib.hid (HP.out.below hb56)
       have hs6 := hb26.size
       clear x3 hm hc6 hb6 hb hb56 hb26 HQ
       clear a0 a1 a2 af b0 b1 b2 b3 bf la lb hold
       obtain ⟨a0, a1, a2, af⟩ := cells3 HP.out.1
       obtain ⟨b0, b1, b2, b3, bf⟩ := cells4 HP.out.2.1
       have la := blk_lt HP.out.1
       have lb := blk_lt HP.out.2.1
       have hold := olds w6
       have hn9 : (w6.heap.size = w.heap.size) = False := by simp; omega
       have hn10 : (w6.heap.size = w.heap.size + 1) = False := by simp; omega
       refine ⟨_, rfl, ?_, ?_⟩
       · exact ⟨(fun _ => ⟨_, drop_at rfl, by (first|(go_simp;done)|(go_simp;with_reducible rfl))⟩), (fun _ => ⟨_, drop_at rfl, by (first|(go_simp;done)|(go_simp;with_reducible rfl))⟩), trivial⟩
       simp only [Act.put, pA, pB, pC]
       refine ST.v (v := ?v1_3_5_19) (w' := ?w1_3_5_19) rfl rfl ?h1_3_5_19 ?s1_3_5_19 ?r1_3_5_19 ?x1_3_5_19
       case h1_3_5_19 => (first|(go_simp;done)|(go_simp;with_reducible rfl)|(go_simp;constructor<;>with_reducible rfl))
       case s1_3_5_19 => exact ⟨(fun _ => ⟨_, drop_at rfl, by (first|(go_simp;done)|(go_simp;with_reducible rfl))⟩), (fun _ => ⟨_, drop_at rfl, by (first|(go_simp;done)|(go_simp;with_reducible rfl))⟩), trivial⟩
       case x1_3_5_19 => exact ST.stop
       simp only [Act.put, pA, pB, pC]
       refine ST.k (w' := ?w1_3_6_18) rfl rfl ?h1_3_6_18 ?s1_3_6_18 ?r1_3_6_18 ?x1_3_6_18
       case h1_3_6_18 => (first|(go_simp;done)|(go_simp;with_reducible rfl)|(go_simp;constructor<;>with_reducible rfl))
       case s1_3_6_18 => exact ⟨(fun _ => ⟨_, drop_at rfl, by (first|(go_simp;done)|(go_simp;with_reducible rfl))⟩), (nw (by kernel_rfl)), trivial⟩
       case x1_3_6_18 => exact ST.stop
       simp only [Act.put, pA, pB, pC]
       refine ST.p (v := ?v1_3_7_17) rfl rfl rfl (fun W => ?h1_3_7_17) ?r1_3_7_17
       case h1_3_7_17 => (first|(go_simp;done)|(go_simp;with_reducible rfl)|(go_simp;constructor<;>with_reducible rfl))
       simp only [Act.put, pA, pB, pC]
       simp only [ST]
       go_wp2
       go_meet
       exact ⟨_, A3, c3, A6, c6, rfl, rfl, Lib.hid ⟨blk_alloc _ _ _ rfl, Own.rdG (HR.out.1.below (below_alloc (Below.refl _ _) _)) (by have := HC.out.1; omega) (fun g hg => by have := HC.out.2 g hg; omega), HR.out.2.1, App.rdM1 (HR.out.2.2.1.below (EMo.stays _ _) (below_alloc (Below.refl _ _) _)) HS.out, by have := HR.out.2.2.2; (repeat (first|exact bR _ _|assumption|apply bN|apply bA|apply bD))⟩⟩
      case' x1_3_4_23 => skip
      refine ST.v (v := ?v1_3_5_24) (w' := ?w1_3_5_24) rfl rfl ?h1_3_5_24 ?s1_3_5_24 ?r1_3_5_24 ?x1_3_5_24
      case h1_3_5_24 => (first|(go_simp;done)|(go_simp;with_reducible rfl)|(go_simp;constructor<;>with_reducible rfl))
      case s1_3_5_24 => exact ⟨(fun _ => ⟨_, drop_at rfl, by (first|(go_simp;done)|(go_simp;with_reducible rfl))⟩), (fun _ => ⟨_, drop_at rfl, by (first|(go_simp;done)|(go_simp;with_reducible rfl))⟩), trivial⟩
      case r1_3_5_24 =>
       simp only [Act.put, pA, pB, pC]
       refine ST.c rfl rfl (by first|(go_simp;done)|(go_simp;with_reducible rfl)|(go_simp;exact ⟨⟨rfl, rfl⟩, rfl⟩)) ?c1_3_4_22 ?x1_3_4_22
       case x1_3_4_22 => exact ST.stop
       obtain ⟨V6, hV⟩ : ∃ V6, w5.alloc (.cells #[.int .i64 0, .int .i64 0, .slice none 0 0] 24) = V6 := ⟨_, rfl⟩
       rw [hV]
       have hb6 : Below w5.heap.size w5 V6 := by rw [← hV]; (repeat (first|exact bR _ _|assumption|apply bN|apply bA|apply bD))
       have x3 := blk2 hb6 HX3.out
       have x5 : V6.heap[w5.heap.size]? = some (.cells #[.int .i64 0, .int .i64 0, .slice none 0 0] 24 (0, 0)) := by rw [← hV]; first | exact blk_alloc _ _ _ (by simp) | exact alloc_old (blk_alloc _ _ _ (by simp))
       clear hV
       refine (rOwnM_any _ 1 _ [s] V6 (RdM.one' x3 HH.out.2.2.2 (HH.out.2.1.bI (HP.out.below hb6).2.2)) rfl (fun g hg => by rw [List.mem_singleton.1 hg]; have := HS.out; omega) (by simp)).mono ?_
       rintro e w6 ⟨v6, rfl, hm, hb⟩
       obtain ⟨A6, c6, rfl, hc6⟩ := hm.form
       rw [List.length_singleton] at hm ⊢
       have hb56 : Below w5.heap.size w5 w6 := hb6.trans (hb.mono hb6.size)
       have hb26 : Below w4.heap.size w4 w6 := HQ.out.2.2.2.trans (hb56.mono HQ.out.2.2.2.size)
       have HR := Lib.hid (show Own 3 55 V.heap.size w6 (.slice A3 c.gates.length c3) c.gates ∧ c.gates.length ≤ c3 ∧ App (EMo 3 V6.heap.size) 27 4 V6.heap.size w6 (.slice A6 1 c6) [s] ∧ Below w4.heap.size w4 w6 from ⟨HQ.out.2.1.below hb56, HQ.out.2.2.1, hm, hb26⟩)
       replace x5 := blk2 hb x5
       have HY5 := Lib.hid x5
       obtain ⟨t0, t1, t2, tf⟩ := cells3 x5
       have lt := blk_lt x5
       clear x5
       replace HP := Lib.hid (HP.out.below hb56)
       have hs6 := hb26.size
       clear x3 hm hc6 hb6 hb hb56 hb26 HQ
       clear a0 a1 a2 af b0 b1 b2 b3 bf la lb hold
       obtain ⟨a0, a1, a2, af⟩ := cells3 HP.out.1
       obtain ⟨b0, b1, b2, b3, bf⟩ := cells4 HP.out.2.1
       have la := blk_lt HP.out.1
       have lb := blk_lt HP.out.2.1
       have hold := olds w6
       have hn9 : (w6.heap.size = w.heap.size) = False := by simp; omega
       have hn10 : (w6.heap.size = w.heap.size + 1) = False := by simp; omega
       refine ⟨_, rfl, ?_, ?_⟩
       · exact ⟨(fun _ => ⟨_, drop_at rfl, by (first|(go_simp;done)|(go_simp;with_reducible rfl))⟩), (fun _ => ⟨_, drop_at rfl, by (first|(go_simp;done)|(go_simp;with_reducible rfl))⟩), trivial⟩
       simp only [Act.put, pA, pB, pC]
       refine ST.k (w' := ?w1_3_6_21) rfl rfl ?h1_3_6_21 ?s1_3_6_21 ?r1_3_6_21 ?x1_3_6_21
       case h1_3_6_21 => (first|(go_simp;done)|(go_simp;with_reducible rfl)|(go_simp;constructor<;>with_reducible rfl))
       case s1_3_6_21 => exact ⟨(fun _ => ⟨_, drop_at rfl, by (first|(go_simp;done)|(go_simp;with_reducible rfl))⟩), (nw (by kernel_rfl)), trivial⟩
       case x1_3_6_21 => exact ST.stop
       simp only [Act.put, pA, pB, pC]
       refine ST.p (v := ?v1_3_7_20) rfl rfl rfl (fun W => ?h1_3_7_20) ?r1_3_7_20
       case h1_3_7_20 => (first|(go_simp;done)|(go_simp;with_reducible rfl)|(go_simp;constructor<;>with_reducible rfl))
       simp only [Act.put, pA, pB, pC]
       simp only [ST]
       go_wp2
       go_meet
       exact ⟨_, A3, c3, A6, c6, rfl, rfl, Lib.hid ⟨set3 HY5.out, Own.rdG ((HR.out.1.setT3 HY5.out (by decide) (by decide))) (by have := HC.out.1; omega) (fun g hg => by have := HC.out.2 g hg; omega), HR.out.2.1, (HR.out.2.2.1.setM3 HY5.out (by decide) (by decide)).rdM1 HS.out, ((HR.out.2.2.2.setCell (by simp; try omega) _).setCell (by simp; try omega) _).setCell (by simp; try omega) _⟩⟩
      case x1_3_5_24 => exact ST.stop
     case' x1_3_1_29 => skip
     refine ST.v (v := ?v1_3_5_30) (w' := ?w1_3_5_30) rfl rfl ?h1_3_5_30 ?s1_3_5_30 ?r1_3_5_30 ?x1_3_5_30
     case h1_3_5_30 => (first|(go_simp;done)|(go_simp;with_reducible rfl)|(go_simp;constructor<;>with_reducible rfl))
     case s1_3_5_30 => exact ⟨(fun _ => ⟨_, drop_at rfl, by (first|(go_simp;done)|(go_simp;with_reducible rfl))⟩), (fun _ => ⟨_, drop_at rfl, by (first|(go_simp;done)|(go_simp;with_reducible rfl))⟩), trivial⟩
     case r1_3_5_30 =>
      simp only [Act.put, pA, pB, pC]
      refine ST.c rfl rfl (by first|(go_simp;done)|(go_simp;with_reducible rfl)|(go_simp;exact ⟨⟨rfl, rfl⟩, rfl⟩)) ?c1_3_1_28 ?x1_3_1_28
      case x1_3_1_28 => exact ST.stop
      obtain ⟨V, hV⟩ : ∃ V, ((w4.alloc (.cells #[.int .i64 s.rule, .int .i64 s.at_, .bool s.back, .slice B s.wires.length d] 27)).alloc (.cells #[.int .i64 0, .int .i64 0, .slice none 0 0] 24)).drew = V := ⟨_, rfl⟩
      rw [hV]
      have hb3 : Below w4.heap.size w4 V := by rw [← hV]; (repeat (first|exact bR _ _|assumption|apply bN|apply bA|apply bD))
      have x3 : V.heap[w4.heap.size]? = some (.cells #[.int .i64 s.rule, .int .i64 s.at_, .bool s.back, .slice B s.wires.length d] 27 (0, 0)) := by rw [← hV]; first | exact blk_alloc _ _ _ (by simp) | exact alloc_old (blk_alloc _ _ _ (by simp))
      have x5 : V.heap[w4.heap.size + 1]? = some (.cells #[.int .i64 0, .int .i64 0, .slice none 0 0] 24 (0, 0)) := by rw [← hV]; exact blk_alloc _ _ _ (by simp)
      clear hV
      refine (kOwn_any A k c V (HH.out.1.bG (HP.out.below hb3).2.2) (fun g hg => by have := HC.out.2 g hg; omega) (by have := HC.out.1; omega)).mono ?_
      rintro e w5 ⟨v5, rfl, ho, hb⟩
      obtain ⟨A3, c3, rfl, hc3⟩ := ho.form'
      have hb25 : Below w4.heap.size w4 w5 := hb3.trans (hb.mono hb3.size)
      have HX3 := Lib.hid (blk2 hb x3)
      have HX5 := Lib.hid (blk2 hb x5)
      have HQ := Lib.hid (show BoxesS w w5 A B k d c s ∧ Own 3 55 V.heap.size w5 (.slice A3 c.gates.length c3) c.gates ∧ c.gates.length ≤ c3 ∧ Below w4.heap.size w4 w5 from ⟨HP.out.below hb25, ho, hc3, hb25⟩)
      clear x3
      clear x5
      clear ho hb hb3 hb25 hc3 HP
      have HP := Lib.hid HQ.out.1
      have hs5 := HQ.out.2.2.2.size
      clear a0 a1 a2 af b0 b1 b2 b3 bf la lb hold
      obtain ⟨a0, a1, a2, af⟩ := cells3 HP.out.1
      obtain ⟨b0, b1, b2, b3, bf⟩ := cells4 HP.out.2.1
      have la := blk_lt HP.out.1
      have lb := blk_lt HP.out.2.1
      have hold := olds w5
      have hn5 : (w5.heap.size = w.heap.size) = False := by simp; omega
      have hn6 : (w5.heap.size = w.heap.size + 1) = False := by simp; omega
      have hn7 : (w5.heap.size + 1 = w.heap.size) = False := by simp; omega
      have hn8 : (w5.heap.size + 1 = w.heap.size + 1) = False := by simp; omega
      refine ⟨_, rfl, ?_, ?_⟩
      · exact ⟨(fun _ => ⟨_, drop_at rfl, by (first|(go_simp;done)|(go_simp;with_reducible rfl))⟩), (nw (by kernel_rfl)), trivial⟩
      simp only [Act.put, pA, pB, pC]
      refine ST.c rfl rfl (by first|(go_simp;done)|(go_simp;with_reducible rfl)|(go_simp;exact ⟨⟨rfl, rfl⟩, rfl⟩)) ?c1_3_4_27 ?x1_3_4_27
      case x1_3_4_27 => exact ST.stop
      obtain ⟨V6, hV⟩ : ∃ V6, w5 = V6 := ⟨_, rfl⟩
      rw [hV]
      have hb6 : Below w5.heap.size w5 V6 := by rw [← hV]; (repeat (first|exact bR _ _|assumption|apply bN|apply bA|apply bD))
      have x3 := blk2 hb6 HX3.out
      have x5 := blk2 hb6 HX5.out
      clear hV
      refine (rOwnM_any _ 1 _ [s] V6 (RdM.one' x3 HH.out.2.2.2 (HH.out.2.1.bI (HP.out.below hb6).2.2)) rfl (fun g hg => by rw [List.mem_singleton.1 hg]; have := HS.out; omega) (by simp)).mono ?_
      rintro e w6 ⟨v6, rfl, hm, hb⟩
      obtain ⟨A6, c6, rfl, hc6⟩ := hm.form
      rw [List.length_singleton] at hm ⊢
      have hb56 : Below w5.heap.size w5 w6 := hb6.trans (hb.mono hb6.size)
      have hb26 : Below w4.heap.size w4 w6 := HQ.out.2.2.2.trans (hb56.mono HQ.out.2.2.2.size)
      have HR := Lib.hid (show Own 3 55 V.heap.size w6 (.slice A3 c.gates.length c3) c.gates ∧ c.gates.length ≤ c3 ∧ App (EMo 3 V6.heap.size) 27 4 V6.heap.size w6 (.slice A6 1 c6) [s] ∧ Below w4.heap.size w4 w6 from ⟨HQ.out.2.1.below hb56, HQ.out.2.2.1, hm, hb26⟩)
      replace x5 := blk2 hb x5
      have HY5 := Lib.hid x5
      obtain ⟨t0, t1, t2, tf⟩ := cells3 x5
      have lt := blk_lt x5
      clear x5
      replace HP := Lib.hid (HP.out.below hb56)
      have hs6 := hb26.size
      clear x3 hm hc6 hb6 hb hb56 hb26 HQ
      clear a0 a1 a2 af b0 b1 b2 b3 bf la lb hold
      obtain ⟨a0, a1, a2, af⟩ := cells3 HP.out.1
      obtain ⟨b0, b1, b2, b3, bf⟩ := cells4 HP.out.2.1
      have la := blk_lt HP.out.1
      have lb := blk_lt HP.out.2.1
      have hold := olds w6
      have hn9 : (w6.heap.size = w.heap.size) = False := by simp; omega
      have hn10 : (w6.heap.size = w.heap.size + 1) = False := by simp; omega
      refine ⟨_, rfl, ?_, ?_⟩
      · exact ⟨(fun _ => ⟨_, drop_at rfl, by (first|(go_simp;done)|(go_simp;with_reducible rfl))⟩), (fun _ => ⟨_, drop_at rfl, by (first|(go_simp;done)|(go_simp;with_reducible rfl))⟩), trivial⟩
      simp only [Act.put, pA, pB, pC]
      refine ST.k (w' := ?w1_3_6_26) rfl rfl ?h1_3_6_26 ?s1_3_6_26 ?r1_3_6_26 ?x1_3_6_26
      case h1_3_6_26 => (first|(go_simp;done)|(go_simp;with_reducible rfl)|(go_simp;constructor<;>with_reducible rfl))
      case s1_3_6_26 => exact ⟨(fun _ => ⟨_, drop_at rfl, by (first|(go_simp;done)|(go_simp;with_reducible rfl))⟩), (nw (by kernel_rfl)), trivial⟩
      case x1_3_6_26 => exact ST.stop
      simp only [Act.put, pA, pB, pC]
      refine ST.p (v := ?v1_3_7_25) rfl rfl rfl (fun W => ?h1_3_7_25) ?r1_3_7_25
      case h1_3_7_25 => (first|(go_simp;done)|(go_simp;with_reducible rfl)|(go_simp;constructor<;>with_reducible rfl))
      simp only [Act.put, pA, pB, pC]
      simp only [ST]
      go_wp2
      go_meet
      exact ⟨_, A3, c3, A6, c6, rfl, rfl, Lib.hid ⟨set3 HY5.out, Own.rdG ((HR.out.1.setT3 HY5.out (by decide) (by decide))) (by have := HC.out.1; omega) (fun g hg => by have := HC.out.2 g hg; omega), HR.out.2.1, (HR.out.2.2.1.setM3 HY5.out (by decide) (by decide)).rdM1 HS.out, ((HR.out.2.2.2.setCell (by simp; try omega) _).setCell (by simp; try omega) _).setCell (by simp; try omega) _⟩⟩
     case x1_3_5_30 => exact ST.stop
    case' x1_3_3_42 => skip
    refine ST.v (v := ?v1_3_5_43) (w' := ?w1_3_5_43) rfl rfl ?h1_3_5_43 ?s1_3_5_43 ?r1_3_5_43 ?x1_3_5_43
    case h1_3_5_43 => (first|(go_simp;done)|(go_simp;with_reducible rfl)|(go_simp;constructor<;>with_reducible rfl))
    case s1_3_5_43 => exact ⟨(fun _ => ⟨_, drop_at rfl, by (first|(go_simp;done)|(go_simp;with_reducible rfl))⟩), (fun _ => ⟨_, drop_at rfl, by (first|(go_simp;done)|(go_simp;with_reducible rfl))⟩), trivial⟩
    case r1_3_5_43 =>
     simp only [Act.put, pA, pB, pC]
     refine ST.c rfl rfl (by first|(go_simp;done)|(go_simp;with_reducible rfl)|(go_simp;exact ⟨⟨rfl, rfl⟩, rfl⟩)) ?c1_3_1_39 ?x1_3_1_39
     case c1_3_1_39 =>
      obtain ⟨V, hV⟩ : ∃ V, (w4.alloc (.cells #[.int .i64 0, .int .i64 0, .slice none 0 0] 24)).drew = V := ⟨_, rfl⟩
      rw [hV]
      have hb3 : Below w4.heap.size w4 V := by rw [← hV]; (repeat (first|exact bR _ _|assumption|apply bN|apply bA|apply bD))
      have x5 : V.heap[w4.heap.size]? = some (.cells #[.int .i64 0, .int .i64 0, .slice none 0 0] 24 (0, 0)) := by rw [← hV]; first | exact blk_alloc _ _ _ (by simp) | exact alloc_old (blk_alloc _ _ _ (by simp))
      clear hV
      refine (kOwn_any A k c V (HH.out.1.bG (HP.out.below hb3).2.2) (fun g hg => by have := HC.out.2 g hg; omega) (by have := HC.out.1; omega)).mono ?_
      rintro e w5 ⟨v5, rfl, ho, hb⟩
      obtain ⟨A3, c3, rfl, hc3⟩ := ho.form'
      have hb25 : Below w4.heap.size w4 w5 := hb3.trans (hb.mono hb3.size)
      have HX5 := Lib.hid (blk2 hb x5)
      have HQ := Lib.hid (show BoxesS w w5 A B k d c s ∧ Own 3 55 V.heap.size w5 (.slice A3 c.gates.length c3) c.gates ∧ c.gates.length ≤ c3 ∧ Below w4.heap.size w4 w5 from ⟨HP.out.below hb25, ho, hc3, hb25⟩)
      clear x5
      clear ho hb hb3 hb25 hc3 HP
      have HP := Lib.hid HQ.out.1
      have hs5 := HQ.out.2.2.2.size
      clear a0 a1 a2 af b0 b1 b2 b3 bf la lb hold
      obtain ⟨a0, a1, a2, af⟩ := cells3 HP.out.1
      obtain ⟨b0, b1, b2, b3, bf⟩ := cells4 HP.out.2.1
      have la := blk_lt HP.out.1
      have lb := blk_lt HP.out.2.1
      have hold := olds w5
      have hn5 : (w5.heap.size = w.heap.size) = False := by simp; omega
      have hn6 : (w5.heap.size = w.heap.size + 1) = False := by simp; omega
      have hn7 : (w5.heap.size + 1 = w.heap.size) = False := by simp; omega
      have hn8 : (w5.heap.size + 1 = w.heap.size + 1) = False := by simp; omega
      refine ⟨_, rfl, ?_, ?_⟩
      · exact ⟨(fun _ => ⟨_, drop_at rfl, by (first|(go_simp;done)|(go_simp;with_reducible rfl))⟩), (nw (by kernel_rfl)), trivial⟩
      simp only [Act.put, pA, pB, pC]
      refine ST.v (v := ?v1_3_3_34) (w' := ?w1_3_3_34) rfl rfl ?h1_3_3_34 ?s1_3_3_34 ?r1_3_3_34 ?x1_3_3_34
      case h1_3_3_34 => (first|(go_simp;done)|(go_simp;with_reducible rfl)|(go_simp;constructor<;>with_reducible rfl))
      case s1_3_3_34 => exact ⟨(nw (by kernel_rfl)), (fun _ => ⟨_, drop_at rfl, by (first|(go_simp;done)|(go_simp;with_reducible rfl))⟩), trivial⟩
      case x1_3_3_34 => exact ST.stop
      simp only [Act.put, pA, pB, pC]
      refine ST.c rfl rfl (by first|(go_simp;done)|(go_simp;with_reducible rfl)|(go_simp;exact ⟨⟨rfl, rfl⟩, rfl⟩)) ?c1_3_4_33 ?x1_3_4_33
      case x1_3_4_33 => exact ST.stop
      obtain ⟨V6, hV⟩ : ∃ V6, w5.alloc (.cells #[.int .i64 s.rule, .int .i64 s.at_, .bool s.back, .slice B s.wires.length d] 27) = V6 := ⟨_, rfl⟩
      rw [hV]
      have hb6 : Below w5.heap.size w5 V6 := by rw [← hV]; (repeat (first|exact bR _ _|assumption|apply bN|apply bA|apply bD))
      have x3 : V6.heap[w5.heap.size]? = some (.cells #[.int .i64 s.rule, .int .i64 s.at_, .bool s.back, .slice B s.wires.length d] 27 (0, 0)) := by rw [← hV]; first | exact blk_alloc _ _ _ (by simp) | exact alloc_old (blk_alloc _ _ _ (by simp))
      have x5 := blk2 hb6 HX5.out
      clear hV
      refine (rOwnM_any _ 1 _ [s] V6 (RdM.one' x3 HH.out.2.2.2 (HH.out.2.1.bI (HP.out.below hb6).2.2)) rfl (fun g hg => by rw [List.mem_singleton.1 hg]; have := HS.out; omega) (by simp)).mono ?_
      rintro e w6 ⟨v6, rfl, hm, hb⟩
      obtain ⟨A6, c6, rfl, hc6⟩ := hm.form
      rw [List.length_singleton] at hm ⊢
      have hb56 : Below w5.heap.size w5 w6 := hb6.trans (hb.mono hb6.size)
      have hb26 : Below w4.heap.size w4 w6 := HQ.out.2.2.2.trans (hb56.mono HQ.out.2.2.2.size)
      have HR := Lib.hid (show Own 3 55 V.heap.size w6 (.slice A3 c.gates.length c3) c.gates ∧ c.gates.length ≤ c3 ∧ App (EMo 3 V6.heap.size) 27 4 V6.heap.size w6 (.slice A6 1 c6) [s] ∧ Below w4.heap.size w4 w6 from ⟨HQ.out.2.1.below hb56, HQ.out.2.2.1, hm, hb26⟩)
      replace x5 := blk2 hb x5
      have HY5 := Lib.hid x5
      obtain ⟨t0, t1, t2, tf⟩ := cells3 x5
      have lt := blk_lt x5
      clear x5
      replace HP := Lib.hid (HP.out.below hb56)
      have hs6 := hb26.size
      clear x3 hm hc6 hb6 hb hb56 hb26 HQ
      clear a0 a1 a2 af b0 b1 b2 b3 bf la lb hold
      obtain ⟨a0, a1, a2, af⟩ := cells3 HP.out.1
      obtain ⟨b0, b1, b2, b3, bf⟩ := cells4 HP.out.2.1
      have la := blk_lt HP.out.1
      have lb := blk_lt HP.out.2.1
      have hold := olds w6
      have hn9 : (w6.heap.size = w.heap.size) = False := by simp; omega
      have hn10 : (w6.heap.size = w.heap.size + 1) = False := by simp; omega
      refine ⟨_, rfl, ?_, ?_⟩
      · exact ⟨(fun _ => ⟨_, drop_at rfl, by (first|(go_simp;done)|(go_simp;with_reducible rfl))⟩), (fun _ => ⟨_, drop_at rfl, by (first|(go_simp;done)|(go_simp;with_reducible rfl))⟩), trivial⟩
      simp only [Act.put, pA, pB, pC]
      refine ST.k (w' := ?w1_3_6_32) rfl rfl ?h1_3_6_32 ?s1_3_6_32 ?r1_3_6_32 ?x1_3_6_32
      case h1_3_6_32 => (first|(go_simp;done)|(go_simp;with_reducible rfl)|(go_simp;constructor<;>with_reducible rfl))
      case s1_3_6_32 => exact ⟨(fun _ => ⟨_, drop_at rfl, by (first|(go_simp;done)|(go_simp;with_reducible rfl))⟩), (nw (by kernel_rfl)), trivial⟩
      case x1_3_6_32 => exact ST.stop
      simp only [Act.put, pA, pB, pC]
      refine ST.p (v := ?v1_3_7_31) rfl rfl rfl (fun W => ?h1_3_7_31) ?r1_3_7_31
      case h1_3_7_31 => (first|(go_simp;done)|(go_simp;with_reducible rfl)|(go_simp;constructor<;>with_reducible rfl))
      simp only [Act.put, pA, pB, pC]
      simp only [ST]
      go_wp2
      go_meet
      exact ⟨_, A3, c3, A6, c6, rfl, rfl, Lib.hid ⟨set3 HY5.out, Own.rdG ((HR.out.1.setT3 HY5.out (by decide) (by decide))) (by have := HC.out.1; omega) (fun g hg => by have := HC.out.2 g hg; omega), HR.out.2.1, (HR.out.2.2.1.setM3 HY5.out (by decide) (by decide)).rdM1 HS.out, ((HR.out.2.2.2.setCell (by simp; try omega) _).setCell (by simp; try omega) _).setCell (by simp; try omega) _⟩⟩
     case' x1_3_1_39 => skip
     refine ST.v (v := ?v1_3_3_40) (w' := ?w1_3_3_40) rfl rfl ?h1_3_3_40 ?s1_3_3_40 ?r1_3_3_40 ?x1_3_3_40
     case h1_3_3_40 => (first|(go_simp;done)|(go_simp;with_reducible rfl)|(go_simp;constructor<;>with_reducible rfl))
     case s1_3_3_40 => exact ⟨(nw (by kernel_rfl)), (fun _ => ⟨_, drop_at rfl, by (first|(go_simp;done)|(go_simp;with_reducible rfl))⟩), trivial⟩
     case r1_3_3_40 =>
      simp only [Act.put, pA, pB, pC]
      refine ST.c rfl rfl (by first|(go_simp;done)|(go_simp;with_reducible rfl)|(go_simp;exact ⟨⟨rfl, rfl⟩, rfl⟩)) ?c1_3_1_38 ?x1_3_1_38
      case x1_3_1_38 => exact ST.stop
      obtain ⟨V, hV⟩ : ∃ V, ((w4.alloc (.cells #[.int .i64 0, .int .i64 0, .slice none 0 0] 24)).alloc (.cells #[.int .i64 s.rule, .int .i64 s.at_, .bool s.back, .slice B s.wires.length d] 27)).drew = V := ⟨_, rfl⟩
      rw [hV]
      have hb3 : Below w4.heap.size w4 V := by rw [← hV]; (repeat (first|exact bR _ _|assumption|apply bN|apply bA|apply bD))
      have x3 : V.heap[w4.heap.size + 1]? = some (.cells #[.int .i64 s.rule, .int .i64 s.at_, .bool s.back, .slice B s.wires.length d] 27 (0, 0)) := by rw [← hV]; exact blk_alloc _ _ _ (by simp)
      have x5 : V.heap[w4.heap.size]? = some (.cells #[.int .i64 0, .int .i64 0, .slice none 0 0] 24 (0, 0)) := by rw [← hV]; first | exact blk_alloc _ _ _ (by simp) | exact alloc_old (blk_alloc _ _ _ (by simp))
      clear hV
      refine (kOwn_any A k c V (HH.out.1.bG (HP.out.below hb3).2.2) (fun g hg => by have := HC.out.2 g hg; omega) (by have := HC.out.1; omega)).mono ?_
      rintro e w5 ⟨v5, rfl, ho, hb⟩
      obtain ⟨A3, c3, rfl, hc3⟩ := ho.form'
      have hb25 : Below w4.heap.size w4 w5 := hb3.trans (hb.mono hb3.size)
      have HX3 := Lib.hid (blk2 hb x3)
      have HX5 := Lib.hid (blk2 hb x5)
      have HQ := Lib.hid (show BoxesS w w5 A B k d c s ∧ Own 3 55 V.heap.size w5 (.slice A3 c.gates.length c3) c.gates ∧ c.gates.length ≤ c3 ∧ Below w4.heap.size w4 w5 from ⟨HP.out.below hb25, ho, hc3, hb25⟩)
      clear x3
      clear x5
      clear ho hb hb3 hb25 hc3 HP
      have HP := Lib.hid HQ.out.1
      have hs5 := HQ.out.2.2.2.size
      clear a0 a1 a2 af b0 b1 b2 b3 bf la lb hold
      obtain ⟨a0, a1, a2, af⟩ := cells3 HP.out.1
      obtain ⟨b0, b1, b2, b3, bf⟩ := cells4 HP.out.2.1
      have la := blk_lt HP.out.1
      have lb := blk_lt HP.out.2.1
      have hold := olds w5
      have hn5 : (w5.heap.size = w.heap.size) = False := by simp; omega
      have hn6 : (w5.heap.size = w.heap.size + 1) = False := by simp; omega
      have hn7 : (w5.heap.size + 1 = w.heap.size) = False := by simp; omega
      have hn8 : (w5.heap.size + 1 = w.heap.size + 1) = False := by simp; omega
      refine ⟨_, rfl, ?_, ?_⟩
      · exact ⟨(fun _ => ⟨_, drop_at rfl, by (first|(go_simp;done)|(go_simp;with_reducible rfl))⟩), (nw (by kernel_rfl)), trivial⟩
      simp only [Act.put, pA, pB, pC]
      refine ST.c rfl rfl (by first|(go_simp;done)|(go_simp;with_reducible rfl)|(go_simp;exact ⟨⟨rfl, rfl⟩, rfl⟩)) ?c1_3_4_37 ?x1_3_4_37
      case x1_3_4_37 => exact ST.stop
      obtain ⟨V6, hV⟩ : ∃ V6, w5 = V6 := ⟨_, rfl⟩
      rw [hV]
      have hb6 : Below w5.heap.size w5 V6 := by rw [← hV]; (repeat (first|exact bR _ _|assumption|apply bN|apply bA|apply bD))
      have x3 := blk2 hb6 HX3.out
      have x5 := blk2 hb6 HX5.out
      clear hV
      refine (rOwnM_any _ 1 _ [s] V6 (RdM.one' x3 HH.out.2.2.2 (HH.out.2.1.bI (HP.out.below hb6).2.2)) rfl (fun g hg => by rw [List.mem_singleton.1 hg]; have := HS.out; omega) (by simp)).mono ?_
      rintro e w6 ⟨v6, rfl, hm, hb⟩
      obtain ⟨A6, c6, rfl, hc6⟩ := hm.form
      rw [List.length_singleton] at hm ⊢
      have hb56 : Below w5.heap.size w5 w6 := hb6.trans (hb.mono hb6.size)
      have hb26 : Below w4.heap.size w4 w6 := HQ.out.2.2.2.trans (hb56.mono HQ.out.2.2.2.size)
      have HR := Lib.hid (show Own 3 55 V.heap.size w6 (.slice A3 c.gates.length c3) c.gates ∧ c.gates.length ≤ c3 ∧ App (EMo 3 V6.heap.size) 27 4 V6.heap.size w6 (.slice A6 1 c6) [s] ∧ Below w4.heap.size w4 w6 from ⟨HQ.out.2.1.below hb56, HQ.out.2.2.1, hm, hb26⟩)
      replace x5 := blk2 hb x5
      have HY5 := Lib.hid x5
      obtain ⟨t0, t1, t2, tf⟩ := cells3 x5
      have lt := blk_lt x5
      clear x5
      replace HP := Lib.hid (HP.out.below hb56)
      have hs6 := hb26.size
      clear x3 hm hc6 hb6 hb hb56 hb26 HQ
      clear a0 a1 a2 af b0 b1 b2 b3 bf la lb hold
      obtain ⟨a0, a1, a2, af⟩ := cells3 HP.out.1
      obtain ⟨b0, b1, b2, b3, bf⟩ := cells4 HP.out.2.1
      have la := blk_lt HP.out.1
      have lb := blk_lt HP.out.2.1
      have hold := olds w6
      have hn9 : (w6.heap.size = w.heap.size) = False := by simp; omega
      have hn10 : (w6.heap.size = w.heap.size + 1) = False := by simp; omega
      refine ⟨_, rfl, ?_, ?_⟩
      · exact ⟨(fun _ => ⟨_, drop_at rfl, by (first|(go_simp;done)|(go_simp;with_reducible rfl))⟩), (fun _ => ⟨_, drop_at rfl, by (first|(go_simp;done)|(go_simp;with_reducible rfl))⟩), trivial⟩
      simp only [Act.put, pA, pB, pC]
      refine ST.k (w' := ?w1_3_6_36) rfl rfl ?h1_3_6_36 ?s1_3_6_36 ?r1_3_6_36 ?x1_3_6_36
      case h1_3_6_36 => (first|(go_simp;done)|(go_simp;with_reducible rfl)|(go_simp;constructor<;>with_reducible rfl))
      case s1_3_6_36 => exact ⟨(fun _ => ⟨_, drop_at rfl, by (first|(go_simp;done)|(go_simp;with_reducible rfl))⟩), (nw (by kernel_rfl)), trivial⟩
      case x1_3_6_36 => exact ST.stop
      simp only [Act.put, pA, pB, pC]
      refine ST.p (v := ?v1_3_7_35) rfl rfl rfl (fun W => ?h1_3_7_35) ?r1_3_7_35
      case h1_3_7_35 => (first|(go_simp;done)|(go_simp;with_reducible rfl)|(go_simp;constructor<;>with_reducible rfl))
      simp only [Act.put, pA, pB, pC]
      simp only [ST]
      go_wp2
      go_meet
      exact ⟨_, A3, c3, A6, c6, rfl, rfl, Lib.hid ⟨set3 HY5.out, Own.rdG ((HR.out.1.setT3 HY5.out (by decide) (by decide))) (by have := HC.out.1; omega) (fun g hg => by have := HC.out.2 g hg; omega), HR.out.2.1, (HR.out.2.2.1.setM3 HY5.out (by decide) (by decide)).rdM1 HS.out, ((HR.out.2.2.2.setCell (by simp; try omega) _).setCell (by simp; try omega) _).setCell (by simp; try omega) _⟩⟩
     case x1_3_3_40 => exact ST.stop
    case x1_3_5_43 => exact ST.stop
  case rest =>
  obtain ⟨b, A3, c3, A6, c6, rfl, rfl, HW⟩ := hcut
  clear a0 a1 a2 af b0 b1 b2 b3 bf la lb hold hn1 hn2 hn3 hn4 hz4
  replace HP := Lib.hid (HP.out.below HW.out.2.2.2.2)
  obtain ⟨⟨er, cc, ph⟩, hx⟩ : ∃ x, ApplyR c s = x := ⟨_, rfl⟩
  have HB := Lib.hid (show cc.gates.length ≤ 1000000 ∧ ∀ g ∈ cc.gates, g.wires.length ≤ 1000000 from by have := ApplyR_small c s; rw [hx] at this; exact this)
  have HX := Lib.hid hx
  clear hx
  obtain ⟨a0, a1, a2, af⟩ := cells3 HP.out.1
  obtain ⟨b0, b1, b2, b3, bf⟩ := cells4 HP.out.2.1
  have la := blk_lt HP.out.1
  have lb := blk_lt HP.out.2.1
  have hold := olds wc
  go_wp2_with fail
  have hc := rApply_any A B k d c s wc (HH.out.1.bG HP.out.2.2) HH.out.2.2.1 (HH.out.2.1.bI HP.out.2.2) HH.out.2.2.2
  rw [HX.out] at hc
  refine hc.mono ?_
  clear hc
  rintro e w5 ⟨A5, c5, rfl, hc5, hr5, hb⟩
  dsimp only at hr5 hc5 ⊢
  replace HP := Lib.hid (HP.out.below hb)
  replace HW := Lib.hid (show w5.heap[b]? = some (.cells #[.int .i64 c.wires, .int .i64 c.bits, .slice A3 c.gates.length c3] 24 (0, 0)) ∧ RdG w5 A3 c.gates ∧ c.gates.length ≤ c3 ∧ RdM w5 A6 [s] from ⟨blk2 hb HW.out.1, HW.out.2.1.bG hb, HW.out.2.2.1, HW.out.2.2.2.1.bM hb⟩)
  have H5 := Lib.hid hr5.rd
  clear hb hr5 hc5
  clear a0 a1 a2 af b0 b1 b2 b3 bf la lb hold
  go_upto_region 5 with fail
  obtain ⟨W6, hW6⟩ : ∃ W6, w5.alloc (.cells #[.int .i64 cc.wires, .int .i64 cc.bits, .slice A5 cc.gates.length c5] 24) = W6 := ⟨_, rfl⟩
  have hb6 : Below w5.heap.size w5 W6 := by rw [← hW6]; (repeat (first|exact bR _ _|assumption|apply bN|apply bA|apply bD))
  have x6 : W6.heap[w5.heap.size]? = some (.cells #[.int .i64 cc.wires, .int .i64 cc.bits, .slice A5 cc.gates.length c5] 24 (0, 0)) := by rw [← hW6]; exact blk_alloc _ _ _ rfl
  rw [hW6]
  clear hW6
  replace HP := Lib.hid (HP.out.below hb6)
  replace HW := Lib.hid (show W6.heap[b]? = some (.cells #[.int .i64 c.wires, .int .i64 c.bits, .slice A3 c.gates.length c3] 24 (0, 0)) ∧ RdG W6 A3 c.gates ∧ c.gates.length ≤ c3 ∧ RdM W6 A6 [s] ∧ W6.heap[w5.heap.size]? = some (.cells #[.int .i64 cc.wires, .int .i64 cc.bits, .slice A5 cc.gates.length c5] 24 (0, 0)) ∧ RdG W6 A5 cc.gates from ⟨blk2 hb6 HW.out.1, HW.out.2.1.bG hb6, HW.out.2.2.1, HW.out.2.2.2.bM hb6, x6, H5.out.bG hb6⟩)
  clear x6 hb6 H5
  obtain ⟨bm, om, B2, c2, rfl, g0, g1, g2, g3, hc2, hr2⟩ := HW.out.2.2.2.1.move 0 (by simp)
  simp only [List.getElem_cons_zero, Nat.zero_mul, Nat.add_zero] at g0 g1 g2 g3 hc2 hr2
  have HM := Lib.hid (And.intro hc2 hr2)
  clear hc2 hr2
  obtain ⟨a0, a1, a2, af⟩ := cells3 HW.out.1
  have la := blk_lt HW.out.1
  have lg := cell_lt g0
  have hold := olds W6
  go_cut [10, 11, 12] (fun p q r wx => ∃ b7 A7 c7, p = .pointer (some ⟨b7, 0, none⟩) ∧ q = .int .i64 ph ∧ r = .int .i64 er ∧ Hid (wx.heap[b7]? = some (.cells #[.int .i64 cc.wires, .int .i64 cc.bits, .slice A7 cc.gates.length c7] 24 (0, 0)) ∧ Own 3 55 W6.heap.size wx (.slice A7 cc.gates.length c7) cc.gates ∧ Below W6.heap.size W6 wx))
  case first =>
    refine wp_region_st (by kernel_rfl) (.op 0 (.op 1 (.op 2 (.op 3 (.alt true 4 (.op 5 (.op 6 (.op 7 (.op 8 (.alt true 9 (.alt true 10 (.op 11 (.op 12 .fin)) .stop) .stop))))) (.alt false 9 (.alt true 4 (.op 5 (.op 6 (.op 7 (.op 8 (.alt true 10 (.op 11 (.op 12 .fin)) .stop))))) .stop) .stop)))))) (by kernel_rfl) (by kernel_rfl) (by kernel_rfl) ?_
    refine ST.l (v := ?v2_5_0_1) rfl rfl rfl ?h2_5_0_1 ?r2_5_0_1
    case h2_5_0_1 => (first|(go_simp;done)|(go_simp;with_reducible rfl)|(go_simp;constructor<;>with_reducible rfl))
    simp only [Act.put, pA, pB, pC]
    refine ST.p (v := ?v2_5_1_2) rfl rfl rfl (fun W => ?h2_5_1_2) ?r2_5_1_2
    case h2_5_1_2 => (first|(go_simp;done)|(go_simp;with_reducible rfl)|(go_simp;constructor<;>with_reducible rfl))
    simp only [Act.put, pA, pB, pC]
    refine ST.p (v := ?v2_5_2_3) rfl rfl rfl (fun W => ?h2_5_2_3) ?r2_5_2_3
    case h2_5_2_3 => (first|(go_simp;done)|(go_simp;with_reducible rfl)|(go_simp;constructor<;>with_reducible rfl))
    simp only [Act.put, pA, pB, pC]
    refine ST.l (v := ?v2_5_3_4) rfl rfl rfl ?h2_5_3_4 ?r2_5_3_4
    case h2_5_3_4 => (first|(go_simp;done)|(go_simp;with_reducible rfl)|(go_simp;constructor<;>with_reducible rfl))
    simp only [Act.put, pA, pB, pC]
    refine ST.c rfl rfl (by first|(go_simp;done)|(go_simp;with_reducible rfl)|(go_simp;exact ⟨⟨rfl, rfl⟩, rfl⟩)) ?c2_5_4_21 ?x2_5_4_21
    case c2_5_4_21 =>
     obtain ⟨V, hV⟩ : ∃ V, W6.drew = V := ⟨_, rfl⟩
     rw [hV]
     have hb7 : Below W6.heap.size W6 V := by rw [← hV]; (repeat (first|exact bR _ _|assumption|apply bN|apply bA|apply bD))
     clear hV
     have hc := Apply_any A3 B2 c3 c2 c s V (Lib.hid (HT.out.below (HP.out.below hb7).2.2)) (HW.out.2.1.bG hb7) HW.out.2.2.1 (HM.out.2.bI hb7)
     rw [HX.out] at hc
     refine hc.mono ?_
     clear hc
     rintro e w8 ⟨v8, rfl, ho, hb⟩
     dsimp only at ho ⊢
     obtain ⟨A7, c7, rfl, _⟩ := ho.form'
     have hb68 : Below W6.heap.size W6 w8 := hb7.trans (hb.mono hb7.size)
     have HQ := Lib.hid (show Own 3 55 W6.heap.size w8 (.slice A7 cc.gates.length c7) cc.gates ∧ Below W6.heap.size W6 w8 from ⟨ho.weak hb7.size, hb68⟩)
     have k0 := kc hb68 g0
     have k1 := kc hb68 g1
     have k2 := kc hb68 g2
     have k3 := kc hb68 g3
     have y0 := blk2 hb68 HW.out.1
     have hs8 := hb68.size
     have hm1 : (W6.heap.size = b) = False := by simp; omega
     have hm2 : (W6.heap.size = bm) = False := by simp; omega
     clear ho hb hb7 hb68 a0 a1 a2 af la lg hold g0 g1 g2 g3
     obtain ⟨a0, a1, a2, af⟩ := cells3 y0
     have la := blk_lt y0
     have lg := cell_lt k0
     have hold := olds w8
     clear y0
     refine ⟨_, rfl, ?_, ?_⟩
     · exact ⟨(nw (by kernel_rfl)), (nw (by kernel_rfl)), trivial⟩
     simp only [Act.put, pA, pB, pC]
     refine ST.p (v := ?v2_5_5_5) rfl rfl rfl (fun W => ?h2_5_5_5) ?r2_5_5_5
     case h2_5_5_5 => (first|(go_simp;done)|(go_simp;with_reducible rfl)|(go_simp;constructor<;>with_reducible rfl))
     simp only [Act.put, pA, pB, pC]
     refine ST.p (v := ?v2_5_6_6) rfl rfl rfl (fun W => ?h2_5_6_6) ?r2_5_6_6
     case h2_5_6_6 => (first|(go_simp;done)|(go_simp;with_reducible rfl)|(go_simp;constructor<;>with_reducible rfl))
     simp only [Act.put, pA, pB, pC]
     refine ST.p (v := ?v2_5_7_7) rfl rfl rfl (fun W => ?h2_5_7_7) ?r2_5_7_7
     case h2_5_7_7 => (first|(go_simp;done)|(go_simp;with_reducible rfl)|(go_simp;constructor<;>with_reducible rfl))
     simp only [Act.put, pA, pB, pC]
     refine ST.p (v := ?v2_5_8_8) rfl rfl rfl (fun W => ?h2_5_8_8) ?r2_5_8_8
     case h2_5_8_8 => (first|(go_simp;done)|(go_simp;with_reducible rfl)|(go_simp;constructor<;>with_reducible rfl))
     simp only [Act.put, pA, pB, pC]
     refine ST.v (v := ?v2_5_9_12) (w' := ?w2_5_9_12) rfl rfl ?h2_5_9_12 ?s2_5_9_12 ?r2_5_9_12 ?x2_5_9_12
     case h2_5_9_12 => (first|(go_simp;done)|(go_simp;with_reducible rfl)|(go_simp;constructor<;>with_reducible rfl))
     case s2_5_9_12 => exact ⟨(fun _ => ⟨_, drop_at rfl, by (first|(go_simp;done)|(go_simp;with_reducible rfl))⟩), (fun _ => ⟨_, drop_at rfl, by (first|(go_simp;done)|(go_simp;with_reducible rfl))⟩), trivial⟩
     case x2_5_9_12 => exact ST.stop
     simp only [Act.put, pA, pB, pC]
     refine ST.k (w' := ?w2_5_10_11) rfl rfl ?h2_5_10_11 ?s2_5_10_11 ?r2_5_10_11 ?x2_5_10_11
     case h2_5_10_11 => (first|(go_simp;done)|(go_simp;with_reducible rfl)|(go_simp;constructor<;>with_reducible rfl))
     case s2_5_10_11 => exact ⟨(nw (by kernel_rfl)), (nw (by kernel_rfl)), trivial⟩
     case x2_5_10_11 => exact ST.stop
     simp only [Act.put, pA, pB, pC]
     refine ST.p (v := ?v2_5_11_9) rfl rfl rfl (fun W => ?h2_5_11_9) ?r2_5_11_9
     case h2_5_11_9 => (first|(go_simp;done)|(go_simp;with_reducible rfl)|(go_simp;constructor<;>with_reducible rfl))
     simp only [Act.put, pA, pB, pC]
     refine ST.p (v := ?v2_5_12_10) rfl rfl rfl (fun W => ?h2_5_12_10) ?r2_5_12_10
     case h2_5_12_10 => (first|(go_simp;done)|(go_simp;with_reducible rfl)|(go_simp;constructor<;>with_reducible rfl))
     simp only [Act.put, pA, pB, pC]
     simp only [ST]
     go_wp2
     go_meet
     exact ⟨_, A7, c7, rfl, rfl, rfl, Lib.hid ⟨blk_alloc _ _ _ rfl, HQ.out.1.below (below_alloc (Below.refl _ _) _), by have := HQ.out.2; (repeat (first|exact bR _ _|assumption|apply bN|apply bA|apply bD))⟩⟩
    case' x2_5_4_21 => skip
    refine ST.v (v := ?v2_5_9_22) (w' := ?w2_5_9_22) rfl rfl ?h2_5_9_22 ?s2_5_9_22 ?r2_5_9_22 ?x2_5_9_22
    case h2_5_9_22 => (first|(go_simp;done)|(go_simp;with_reducible rfl)|(go_simp;constructor<;>with_reducible rfl))
    case s2_5_9_22 => exact ⟨(fun _ => ⟨_, drop_at rfl, by (first|(go_simp;done)|(go_simp;with_reducible rfl))⟩), (fun _ => ⟨_, drop_at rfl, by (first|(go_simp;done)|(go_simp;with_reducible rfl))⟩), trivial⟩
    case r2_5_9_22 =>
     simp only [Act.put, pA, pB, pC]
     refine ST.c rfl rfl (by first|(go_simp;done)|(go_simp;with_reducible rfl)|(go_simp;exact ⟨⟨rfl, rfl⟩, rfl⟩)) ?c2_5_4_20 ?x2_5_4_20
     case x2_5_4_20 => exact ST.stop
     obtain ⟨V, hV⟩ : ∃ V, (W6.alloc (.cells #[.int .i64 0, .int .i64 0, .slice none 0 0] 24)).drew = V := ⟨_, rfl⟩
     rw [hV]
     have hb7 : Below W6.heap.size W6 V := by rw [← hV]; (repeat (first|exact bR _ _|assumption|apply bN|apply bA|apply bD))
     have x7 : V.heap[W6.heap.size]? = some (.cells #[.int .i64 0, .int .i64 0, .slice none 0 0] 24 (0, 0)) := by rw [← hV]; exact blk_alloc _ _ _ rfl
     clear hV
     have hc := Apply_any A3 B2 c3 c2 c s V (Lib.hid (HT.out.below (HP.out.below hb7).2.2)) (HW.out.2.1.bG hb7) HW.out.2.2.1 (HM.out.2.bI hb7)
     rw [HX.out] at hc
     refine hc.mono ?_
     clear hc
     rintro e w8 ⟨v8, rfl, ho, hb⟩
     dsimp only at ho ⊢
     obtain ⟨A7, c7, rfl, _⟩ := ho.form'
     have hb68 : Below W6.heap.size W6 w8 := hb7.trans (hb.mono hb7.size)
     replace x7 := blk2 hb x7
     have HX7 := Lib.hid x7
     obtain ⟨t0, t1, t2, tf⟩ := cells3 x7
     have lt := blk_lt x7
     clear x7
     have HQ := Lib.hid (show Own 3 55 W6.heap.size w8 (.slice A7 cc.gates.length c7) cc.gates ∧ Below W6.heap.size W6 w8 from ⟨ho.weak hb7.size, hb68⟩)
     have k0 := kc hb68 g0
     have k1 := kc hb68 g1
     have k2 := kc hb68 g2
     have k3 := kc hb68 g3
     have y0 := blk2 hb68 HW.out.1
     have hs8 := hb68.size
     have hm1 : (W6.heap.size = b) = False := by simp; omega
     have hm2 : (W6.heap.size = bm) = False := by simp; omega
     clear ho hb hb7 hb68 a0 a1 a2 af la lg hold g0 g1 g2 g3
     obtain ⟨a0, a1, a2, af⟩ := cells3 y0
     have la := blk_lt y0
     have lg := cell_lt k0
     have hold := olds w8
     clear y0
     refine ⟨_, rfl, ?_, ?_⟩
     · exact ⟨(nw (by kernel_rfl)), (nw (by kernel_rfl)), trivial⟩
     simp only [Act.put, pA, pB, pC]
     refine ST.p (v := ?v2_5_5_13) rfl rfl rfl (fun W => ?h2_5_5_13) ?r2_5_5_13
     case h2_5_5_13 => (first|(go_simp;done)|(go_simp;with_reducible rfl)|(go_simp;constructor<;>with_reducible rfl))
     simp only [Act.put, pA, pB, pC]
     refine ST.p (v := ?v2_5_6_14) rfl rfl rfl (fun W => ?h2_5_6_14) ?r2_5_6_14
     case h2_5_6_14 => (first|(go_simp;done)|(go_simp;with_reducible rfl)|(go_simp;constructor<;>with_reducible rfl))
     simp only [Act.put, pA, pB, pC]
     refine ST.p (v := ?v2_5_7_15) rfl rfl rfl (fun W => ?h2_5_7_15) ?r2_5_7_15
     case h2_5_7_15 => (first|(go_simp;done)|(go_simp;with_reducible rfl)|(go_simp;constructor<;>with_reducible rfl))
     simp only [Act.put, pA, pB, pC]
     refine ST.p (v := ?v2_5_8_16) rfl rfl rfl (fun W => ?h2_5_8_16) ?r2_5_8_16
     case h2_5_8_16 => (first|(go_simp;done)|(go_simp;with_reducible rfl)|(go_simp;constructor<;>with_reducible rfl))
     simp only [Act.put, pA, pB, pC]
     refine ST.k (w' := ?w2_5_10_19) rfl rfl ?h2_5_10_19 ?s2_5_10_19 ?r2_5_10_19 ?x2_5_10_19
     case h2_5_10_19 => (first|(go_simp;done)|(go_simp;with_reducible rfl)|(go_simp;constructor<;>with_reducible rfl))
     case s2_5_10_19 => exact ⟨(nw (by kernel_rfl)), (nw (by kernel_rfl)), trivial⟩
     case x2_5_10_19 => exact ST.stop
     simp only [Act.put, pA, pB, pC]
     refine ST.p (v := ?v2_5_11_17) rfl rfl rfl (fun W => ?h2_5_11_17) ?r2_5_11_17
     case h2_5_11_17 => (first|(go_simp;done)|(go_simp;with_reducible rfl)|(go_simp;constructor<;>with_reducible rfl))
     simp only [Act.put, pA, pB, pC]
     refine ST.p (v := ?v2_5_12_18) rfl rfl rfl (fun W => ?h2_5_12_18) ?r2_5_12_18
     case h2_5_12_18 => (first|(go_simp;done)|(go_simp;with_reducible rfl)|(go_simp;constructor<;>with_reducible rfl))
     simp only [Act.put, pA, pB, pC]
     simp only [ST]
     go_wp2
     go_meet
     exact ⟨_, A7, c7, rfl, rfl, rfl, Lib.hid ⟨set3 HX7.out, HQ.out.1.setT3 HX7.out (by decide) (by decide), ((HQ.out.2.setCell (by simp; try omega) _).setCell (by simp; try omega) _).setCell (by simp; try omega) _⟩⟩
    case x2_5_9_22 => exact ST.stop
  case rest =>
  obtain ⟨b7, A7, c7, rfl, rfl, rfl, HG⟩ := hcut
  rename World => w7
  clear a0 a1 a2 af la lg hold g0 g1 g2 g3 HM
  have p7 := HG.out.1
  have y5 := blk2 HG.out.2.2 HW.out.2.2.2.2.1
  obtain ⟨a0, a1, a2, af⟩ := cells3 p7
  obtain ⟨t0, t1, t2, tf⟩ := cells3 y5
  clear p7 y5
  go_wp2_with fail
  have hc := drawn_any W6.heap.size A7 A5 c7 c5 cc cc er er w7 HG.out.2.1 HB.out.1 HB.out.2 (HW.out.2.2.2.2.2.bG HG.out.2.2) HG.out.2.2.size
  rw [decide_eq_true rfl, decide_eq_true rfl] at hc
  refine hc.mono ?_
  clear hc
  rintro e w8 ⟨rfl, hb⟩
  have hb68 : Below W6.heap.size W6 w8 := HG.out.2.2.trans hb
  replace HP := Lib.hid (HP.out.below hb68)
  replace HW := Lib.hid (show w8.heap[b]? = some (.cells #[.int .i64 c.wires, .int .i64 c.bits, .slice A3 c.gates.length c3] 24 (0, 0)) ∧ RdG w8 A3 c.gates ∧ RdM w8 (some ⟨bm, om, none⟩) [s] from ⟨blk2 hb68 HW.out.1, HW.out.2.1.bG hb68, HW.out.2.2.2.1.bM hb68⟩)
  clear hb hb68 HG HB HX a0 a1 a2 af t0 t1 t2 tf
  obtain ⟨a0, a1, a2, af⟩ := cells3 HP.out.1
  obtain ⟨b0, b1, b2, b3, bf⟩ := cells4 HP.out.2.1
  have la := blk_lt HP.out.1
  have lb := blk_lt HP.out.2.1
  have hold := olds w8
  obtain ⟨t0, t1, t2, tf⟩ := cells3 HW.out.1
  go_wp2_with fail
  have hc := kSame_any A3 A c3 k c c w8 HW.out.2.1 (HH.out.1.bG HP.out.2.2)
  rw [decide_eq_true rfl] at hc
  refine hc.mono ?_
  clear hc
  rintro e w9 ⟨rfl, hb⟩
  replace HP := Lib.hid (HP.out.below hb)
  have HW2 := Lib.hid (HW.out.2.2.bM hb)
  clear hb HW t0 t1 t2 tf
  clear a0 a1 a2 af b0 b1 b2 b3 bf la lb hold
  obtain ⟨a0, a1, a2, af⟩ := cells3 HP.out.1
  obtain ⟨b0, b1, b2, b3, bf⟩ := cells4 HP.out.2.1
  have la := blk_lt HP.out.1
  have lb := blk_lt HP.out.2.1
  have hold := olds w9
  go_wp2_with fail
  obtain ⟨W10, hW⟩ : ∃ V, w9.alloc (.cells #[.int .i64 s.rule, .int .i64 s.at_, .bool s.back, .slice B s.wires.length d] 27) = V := ⟨_, rfl⟩
  have hb3 : Below w9.heap.size w9 W10 := by rw [← hW]; (repeat (first|exact bR _ _|assumption|apply bN|apply bA|apply bD))
  have x3 : W10.heap[w9.heap.size]? = some (.cells #[.int .i64 s.rule, .int .i64 s.at_, .bool s.back, .slice B s.wires.length d] 27 (0, 0)) := by rw [← hW]; exact blk_alloc _ _ _ rfl
  rw [hW]
  clear hW
  clear a0 a1 a2 af b0 b1 b2 b3 bf la lb hold
  replace HP := Lib.hid (HP.out.below hb3)
  have hc := rEqual_any (some ⟨bm, om, none⟩) (some ⟨w9.heap.size, 0, none⟩) 1 1 c6 1 [s] [s] W10 (HW2.out.bM hb3) (RdM.one' x3 HH.out.2.2.2 (HH.out.2.1.bI HP.out.2.2)) rfl rfl
  rw [decide_eq_true rfl] at hc
  refine hc.mono ?_
  clear hc x3 hb3
  rintro e w11 ⟨rfl, hb⟩
  replace HP := Lib.hid (HP.out.below hb)
  clear hb HW2
  go_wp2_with fail
  refine (awake_any _ (Lib.hid (HT.out.below HP.out.2.2))).mono ?_
  rintro e w99 ⟨rfl, hb⟩
  replace HP := Lib.hid (HP.out.below hb)
  clear hb
  go_wp2
  go_ret
  exact ⟨rfl, HP.out.2.2⟩
end Go.Proofs.YtfommmijojfdbaaGreatDoor
