/- The reference's rules: Rule. -/
import Derived.Test.YtfommmijojfdbaaGreatDoorR9
import Derived.Test.YtfommmijojfdbaaGreatDoorZ26
set_option linter.all false
namespace Go.Proofs.YtfommmijojfdbaaGreatDoor
open Go.RowKit

def RuleBy (w W3 : World) (bx i : Nat) (A1 : Option Addr) (c1 : Nat) (A2 : Option Addr) (c2 : Nat) (V : World) : Prop :=
  V.heap[bx]? = some (.cells #[.int .i64 (ruleW i), .slice A1 (ruleL i).length c1, .slice A2 (ruleR i).length c2, .int .i64 (ruleP i)] 107 (0, 0)) ∧ V.heap[w.heap.size]? = some (.cells #[.int .i64 0, .int .i64 0, .slice none 0 0] 24 (0, 0)) ∧
    V.heap[w.heap.size + 1]? = some (.cells #[.int .i64 0, .int .i64 0, .slice none 0 0] 24 (0, 0)) ∧ Below W3.heap.size W3 V
theorem RuleBy.below {w W3 V V' : World} {bx i c1 c2 : Nat} {A1 A2 : Option Addr} (h : RuleBy w W3 bx i A1 c1 A2 c2 V) (hb : Below V.heap.size V V') : RuleBy w W3 bx i A1 c1 A2 c2 V' :=
  ⟨blk2 hb h.1, blk2 hb h.2.1, blk2 hb h.2.2.1, h.2.2.2.trans (hb.mono h.2.2.2.size)⟩
theorem alloc2_fst (w : World) (o o' : Obj) : ((w.alloc o).alloc o').heap[w.heap.size]? = some o := (Below.heap_alloc _ _ _ (by simp)).trans (heap_alloc_new _ _)
theorem alloc2_snd (w : World) (o o' : Obj) : ((w.alloc o).alloc o').heap[w.heap.size + 1]? = some o' := by
  have := heap_alloc_new (w.alloc o) o'
  simpa using this
/-- What either Rule hands back where there is no such rule. -/
def RetNo (w : World) (e : Ending) (w' : World) : Prop := e = .returned (.tuple #[.agg #[.int .i64 0, .int .i64 0, .slice none 0 0], .agg #[.int .i64 0, .int .i64 0, .slice none 0 0], .int .i64 0, .int .i64 1]) ∧ Below w.heap.size w w'
set_option maxRecDepth 1000000 in
set_option maxHeartbeats 8000000 in
theorem Rule_no (i : Int) (hi : i < 0 ∨ 43 ≤ i) (w : World) : Calls Tryz.prog 39 #[.int .i64 i] w (RetNo w) := by
  by_cases h0 : i < 0
  · have h1 : decide (i < 0) = true := by simpa using h0
    go_enter Tryz.func39, Tryz.ntmps39
    go_wp2
    exact bodyPost_ret (results_list (rs := [.cell 2 24, .cell 3 24, .tmp 4, .tmp 5]) rfl (by simp) (.cell w.heap.size 24 _ _ _ rfl (alloc2_fst _ _ _) Tryz.underlying24 rfl (by kernel_rfl) (.cell (w.heap.size + 1) 24 _ _ _ rfl (alloc2_snd _ _ _) Tryz.underlying24 rfl (by kernel_rfl) (.tmp (.tmp .nil))))) rfl ⟨rfl, by (repeat (first|exact bR _ _|assumption|apply bN|apply bA|apply bD))⟩
  · have h1 : decide (i < 0) = false := by simpa using h0
    have h2 : decide (43 ≤ i) = true := by simp; omega
    go_enter Tryz.func39, Tryz.ntmps39
    go_wp2
    exact bodyPost_ret (results_list (rs := [.cell 2 24, .cell 3 24, .tmp 4, .tmp 5]) rfl (by simp) (.cell w.heap.size 24 _ _ _ rfl (alloc2_fst _ _ _) Tryz.underlying24 rfl (by kernel_rfl) (.cell (w.heap.size + 1) 24 _ _ _ rfl (alloc2_snd _ _ _) Tryz.underlying24 rfl (by kernel_rfl) (.tmp (.tmp .nil))))) rfl ⟨rfl, by (repeat (first|exact bR _ _|assumption|apply bN|apply bA|apply bD))⟩
set_option maxRecDepth 1000000 in
set_option maxHeartbeats 8000000 in
theorem rRule_no (i : Int) (hi : i < 0 ∨ 43 ≤ i) (w : World) : Calls Tryz.prog 40 #[.int .i64 i] w (RetNo w) := by
  by_cases h0 : i < 0
  · have h1 : decide (i < 0) = true := by simpa using h0
    go_enter Tryz.func40, Tryz.ntmps40
    go_wp2
    exact bodyPost_ret (results_list (rs := [.cell 2 24, .cell 3 24, .tmp 4, .tmp 5]) rfl (by simp) (.cell w.heap.size 24 _ _ _ rfl (alloc2_fst _ _ _) Tryz.underlying24 rfl (by kernel_rfl) (.cell (w.heap.size + 1) 24 _ _ _ rfl (alloc2_snd _ _ _) Tryz.underlying24 rfl (by kernel_rfl) (.tmp (.tmp .nil))))) rfl ⟨rfl, by (repeat (first|exact bR _ _|assumption|apply bN|apply bA|apply bD))⟩
  · have h1 : decide (i < 0) = false := by simpa using h0
    have h2 : decide (43 ≤ i) = true := by simp; omega
    go_enter Tryz.func40, Tryz.ntmps40
    go_wp2
    exact bodyPost_ret (results_list (rs := [.cell 2 24, .cell 3 24, .tmp 4, .tmp 5]) rfl (by simp) (.cell w.heap.size 24 _ _ _ rfl (alloc2_fst _ _ _) Tryz.underlying24 rfl (by kernel_rfl) (.cell (w.heap.size + 1) 24 _ _ _ rfl (alloc2_snd _ _ _) Tryz.underlying24 rfl (by kernel_rfl) (.tmp (.tmp .nil))))) rfl ⟨rfl, by (repeat (first|exact bR _ _|assumption|apply bN|apply bA|apply bD))⟩

set_option maxRecDepth 1000000 in
set_option maxHeartbeats 8000000 in
theorem rRule_ok (i : Nat) (hi : i < 43) (w : World) : Calls Tryz.prog 40 #[.int .i64 i] w (RetRl i w) := by
  have h1 : decide ((i : Int) < 0) = false := by simp
  have h2 : decide (43 ≤ (i : Int)) = false := by simp; omega
  go_enter Tryz.func40, Tryz.ntmps40
  go_upto_region 3 with fail
  obtain ⟨W1, hW1⟩ : ∃ W1, (w.alloc (.cells #[.int .i64 0, .int .i64 0, .slice none 0 0] 24)).alloc (.cells #[.int .i64 0, .int .i64 0, .slice none 0 0] 24) = W1 := ⟨_, rfl⟩
  have hb1 : Below w.heap.size w W1 := by rw [← hW1]; exact bl
  have p0 : W1.heap[w.heap.size]? = some (.cells #[.int .i64 0, .int .i64 0, .slice none 0 0] 24 (0, 0)) := by rw [← hW1]; exact alloc_old (blk_alloc _ _ _ rfl)
  have p1 : W1.heap[w.heap.size + 1]? = some (.cells #[.int .i64 0, .int .i64 0, .slice none 0 0] 24 (0, 0)) := by rw [← hW1]; exact blk_alloc _ _ _ (by simp)
  rw [hW1]
  clear hW1
  have hc := rRuled_any i (by omega) W1
  go_wp2_with fail
  refine hc.mono ?_
  clear hc
  rintro e w2 ⟨A1, c1, A2, c2, rfl, r1, r2, hc1, hc2, hb⟩
  obtain ⟨k1, k2, _⟩ := rule_ok i (by omega)
  have K1 := Lib.hid (okSide_of k1)
  have K2 := Lib.hid (okSide_of k2)
  have HO := Lib.hid (And.intro r1.rd r2.rd)
  clear r1 r2 k1 k2
  have q0 := blk2 hb p0
  have q1 := blk2 hb p1
  have hb2 := hb1.trans (hb.mono hb1.size)
  clear hb hb1 p0 p1
  go_upto_region 4 with fail
  obtain ⟨W3, hW3⟩ : ∃ W3, w2.alloc (.cells #[.int .i64 (ruleW i), .slice A1 (ruleL i).length c1, .slice A2 (ruleR i).length c2, .int .i64 (ruleP i)] 107) = W3 := ⟨_, rfl⟩
  have hb23 : Below w2.heap.size w2 W3 := by rw [← hW3]; exact bl
  have x3 : W3.heap[w2.heap.size]? = some (.cells #[.int .i64 (ruleW i), .slice A1 (ruleL i).length c1, .slice A2 (ruleR i).length c2, .int .i64 (ruleP i)] 107 (0, 0)) := by rw [← hW3]; exact blk_alloc _ _ _ rfl
  rw [hW3]
  clear hW3
  have HB := Lib.hid (show RuleBy w W3 w2.heap.size i A1 c1 A2 c2 W3 from ⟨x3, blk2 hb23 q0, blk2 hb23 q1, Below.refl _ _⟩)
  have HR := Lib.hid (show ∀ V, Below W3.heap.size W3 V → RdG V A1 (ruleL i) ∧ RdG V A2 (ruleR i) from fun V h => ⟨HO.out.1.bG (hb23.trans (h.mono hb23.size)), HO.out.2.bG (hb23.trans (h.mono hb23.size))⟩)
  have hw3 := hb2.trans (hb23.mono hb2.size)
  have hlw := blk_lt q1
  have hz23 := hb23.size
  clear x3 q0 q1 hb23
  refine wp_region_st (by kernel_rfl) (.op 0 (.op 1 (.op 2 (.op 3 (.op 6 (.op 7 (.op 8 (.op 9 (.op 12 (.op 13 (.alt true 4 (.op 5 (.alt true 10 (.op 11 (.alt true 14 (.alt true 15 (.op 16 (.op 17 .fin)) .stop) .stop)) .stop)) .stop))))))))))) (by kernel_rfl) (by kernel_rfl) (by kernel_rfl) ?_
  generalize hV : World.drew W3 = V0
  have hw0 := (show Below W3.heap.size W3 V0 by rw [← hV]; exact bl).size
  replace HB := Lib.hid (HB.out.below (show Below W3.heap.size W3 V0 by rw [← hV]; exact bl))
  clear hV
  obtain ⟨a0, a1, a2, a3, af⟩ := cells4 HB.out.1
  obtain ⟨b0, b1, b2, bf⟩ := cells3 HB.out.2.1
  obtain ⟨t0, t1, t2, tf⟩ := cells3 HB.out.2.2.1
  have la := blk_lt HB.out.1
  have lb := blk_lt HB.out.2.1
  have lt := blk_lt HB.out.2.2.1
  have hold := olds V0
  iterate 10 ((first|refine ST.q ?_|refine ST.m ?_|refine ST.n ?_|refine ST.v1 ?_ ST.stop|refine ST.k1 ?_ ST.stop);simp only [Act.put, pA, pB, pC])
  refine ST.c1 ?_ ST.stop
  refine (rOwn_any A1 (ruleL i).length c1 (ruleL i) V0 (HR.out _ HB.out.2.2.2).1 rfl (fun g hg => by have := (K1.out.2 g hg).1; omega) (by have := K1.out.1; omega)).mono ?_
  rintro e V1 ⟨v, rfl, ho, hb⟩
  obtain ⟨A5, c5, rfl, _⟩ := ho.form'
  have HOL := Lib.hid ho.h
  replace HB := Lib.hid (HB.out.below hb)
  have hz0 := hb.size
  clear ho hb a0 a1 a2 a3 af b0 b1 b2 bf t0 t1 t2 tf la lb lt hold
  obtain ⟨a0, a1, a2, a3, af⟩ := cells4 HB.out.1
  obtain ⟨b0, b1, b2, bf⟩ := cells3 HB.out.2.1
  obtain ⟨t0, t1, t2, tf⟩ := cells3 HB.out.2.2.1
  have la := blk_lt HB.out.1
  have lb := blk_lt HB.out.2.1
  have lt := blk_lt HB.out.2.2.1
  have hold := olds V1
  refine ⟨_, rfl, sb, ?_⟩
  simp only [Act.put, pA, pB, pC]
  (first|refine ST.q ?_|refine ST.m ?_|refine ST.n ?_|refine ST.v1 ?_ ST.stop|refine ST.k1 ?_ ST.stop)
  simp only [Act.put, pA, pB, pC]
  refine ST.c1 ?_ ST.stop
  refine (rOwn_any A2 (ruleR i).length c2 (ruleR i) V1 (HR.out _ HB.out.2.2.2).2 rfl (fun g hg => by have := (K2.out.2 g hg).1; omega) (by have := K2.out.1; omega)).mono ?_
  rintro e V2 ⟨v, rfl, ho, hb⟩
  obtain ⟨A6, c6, rfl, _⟩ := ho.form'
  have HOR := Lib.hid ho.h
  replace HOL := Lib.hid (HOL.out.below (hb.mono (by omega)))
  replace HB := Lib.hid (HB.out.below hb)
  have hz1 := hb.size
  clear ho hb a0 a1 a2 a3 af b0 b1 b2 bf t0 t1 t2 tf la lb lt hold
  obtain ⟨a0, a1, a2, a3, af⟩ := cells4 HB.out.1
  obtain ⟨b0, b1, b2, bf⟩ := cells3 HB.out.2.1
  obtain ⟨t0, t1, t2, tf⟩ := cells3 HB.out.2.2.1
  have la := blk_lt HB.out.1
  have lb := blk_lt HB.out.2.1
  have lt := blk_lt HB.out.2.2.1
  have hold := olds V2
  have hn1 : (w.heap.size = w2.heap.size) = False := by simp; omega
  have hn2 : (w.heap.size + 1 = w2.heap.size) = False := by simp; omega
  refine ⟨_, rfl, sb, ?_⟩
  simp only [Act.put, pA, pB, pC]
  iterate 5 ((first|refine ST.q ?_|refine ST.m ?_|refine ST.n ?_|refine ST.v1 ?_ ST.stop|refine ST.k1 ?_ ST.stop);simp only [Act.put, pA, pB, pC])
  simp only [ST]
  go_wp2
  have hBF := hw3.trans (HB.out.2.2.2.mono hw3.size)
  have hzV := HB.out.2.2.2.size
  refine bodyPost_ret (results_list (rs := [.cell 2 24, .cell 3 24, .tmp 4, .tmp 5]) rfl (by simp) (.cell w.heap.size 24 _ _ _ rfl ((set3n (by omega)).trans (set3 HB.out.2.1)) Tryz.underlying24 rfl (by kernel_rfl) (.cell (w.heap.size + 1) 24 _ _ _ rfl (set3 ((set3n (by omega)).trans HB.out.2.2.1)) Tryz.underlying24 rfl (by kernel_rfl) (.tmp (.tmp .nil))))) rfl ?_
  refine ⟨A5, c5, A6, c6, V0.heap.size, V1.heap.size, V1.heap.size, rfl, HOL.out.kept fun k _ _ => (set3n (by omega)).trans (set3n (by omega)), ?_, by omega, by omega, by omega, by simp; try omega, ?_⟩
  · have := HOR.out.kept (w1 := ((((((V2.setCell ⟨w.heap.size, 0, none⟩ (.int .i64 (ruleW i))).setCell ⟨w.heap.size, 1, none⟩ (.int .i64 0)).setCell ⟨w.heap.size, 2, none⟩ (.slice A5 (ruleL i).length c5)).setCell ⟨w.heap.size + 1, 0, none⟩ (.int .i64 (ruleW i))).setCell ⟨w.heap.size + 1, 1, none⟩ (.int .i64 0)).setCell ⟨w.heap.size + 1, 2, none⟩ (.slice A6 (ruleR i).length c6))) fun k _ _ => (set3n (by omega)).trans (set3n (by omega))
    simpa using this
  · exact (((((hBF.setCell (Nat.le_refl _) _).setCell (Nat.le_refl _) _).setCell (Nat.le_refl _) _).setCell (by simp) _).setCell (by simp) _).setCell (by simp) _
end Go.Proofs.YtfommmijojfdbaaGreatDoor
