/- Package rules: Rule. -/
import Derived.Test.YtfommmijojfdbaaGreatDoorZ13
import Derived.Test.YtfommmijojfdbaaGreatDoorZ04
import Derived.Test.YtfommmijojfdbaaGreatDoorSB
import Derived.Test.YtfommmijojfdbaaGreatDoorZ14
set_option linter.all false
namespace Go.Proofs.YtfommmijojfdbaaGreatDoor
open Go.RowKit

theorem cells5 {W : World} {b : Nat} {x0 x1 x2 x3 x4 : Value} {T : TypeId} (h : W.heap[b]? = some (.cells #[x0, x1, x2, x3, x4] T (0, 0))) :
    W.cell? ⟨b, 0, none⟩ = some x0 ∧ W.cell? ⟨b, 1, none⟩ = some x1 ∧ W.cell? ⟨b, 2, none⟩ = some x2 ∧ W.cell? ⟨b, 3, none⟩ = some x3 ∧ W.cell? ⟨b, 4, none⟩ = some x4 ∧ ∀ k, W.frozen? ⟨b, k, none⟩ = false :=
  ⟨by rw [cell_of_row _ _ 0 _ _ (0, 0) h]; rfl, by rw [cell_of_row _ _ 1 _ _ (0, 0) h]; rfl, by rw [cell_of_row _ _ 2 _ _ (0, 0) h]; rfl, by rw [cell_of_row _ _ 3 _ _ (0, 0) h]; rfl, by rw [cell_of_row _ _ 4 _ _ (0, 0) h]; rfl, fun k => frozen_of_row _ _ k _ _ h⟩
theorem set3n {W : World} {b g : Nat} {u0 u1 u2 : Value} (h : g ≠ b) : (((W.setCell ⟨b, 0, none⟩ u0).setCell ⟨b, 1, none⟩ u1).setCell ⟨b, 2, none⟩ u2).heap[g]? = W.heap[g]? :=
  (heap_setCell_other _ _ _ _ h).trans ((heap_setCell_other _ _ _ _ h).trans (heap_setCell_other _ _ _ _ h))
theorem okSide_of {n : Int} {l : List G} (h : okSide n l = true) : l.length ≤ 20 ∧ ∀ g ∈ l, g.wires.length ≤ 3 ∧ ∀ k ∈ g.wires, 0 ≤ k ∧ k < n := by
  simp only [okSide, Bool.and_eq_true, decide_eq_true_eq, List.all_eq_true] at h
  exact h
/-- What Rule hands back: each side in blocks of its own. -/
def RetRl (i : Nat) (w : World) (e : Ending) (w' : World) : Prop :=
  ∃ A1 c1 A2 c2 lo m m2, e = .returned (.tuple #[.agg #[.int .i64 (ruleW i), .int .i64 0, .slice A1 (ruleL i).length c1], .agg #[.int .i64 (ruleW i), .int .i64 0, .slice A2 (ruleR i).length c2], .int .i64 (ruleP i), .int .i64 0]) ∧
    OwnH 3 55 lo m w' (.slice A1 (ruleL i).length c1) (ruleL i) ∧ OwnH 3 55 m2 w'.heap.size w' (.slice A2 (ruleR i).length c2) (ruleR i) ∧ w.heap.size ≤ lo ∧ lo ≤ m ∧ m ≤ m2 ∧ m2 ≤ w'.heap.size ∧ Below w.heap.size w w'
/-- The boxes of Rule: the rule's, and those of both results. -/
def RuleBx (w W3 : World) (bx i : Nat) (A1 : Option Addr) (c1 : Nat) (A2 : Option Addr) (c2 : Nat) (fx : Value) (V : World) : Prop :=
  V.heap[bx]? = some (.cells #[.slice A1 (ruleL i).length c1, .slice A2 (ruleR i).length c2, .int .i64 (ruleW i), .int .i64 (ruleP i), fx] 88 (0, 0)) ∧ V.heap[w.heap.size]? = some (.cells #[.int .i64 0, .int .i64 0, .slice none 0 0] 24 (0, 0)) ∧
    V.heap[w.heap.size + 1]? = some (.cells #[.int .i64 0, .int .i64 0, .slice none 0 0] 24 (0, 0)) ∧ Below W3.heap.size W3 V
theorem RuleBx.below {w W3 V V' : World} {bx i c1 c2 : Nat} {A1 A2 : Option Addr} {fx : Value} (h : RuleBx w W3 bx i A1 c1 A2 c2 fx V) (hb : Below V.heap.size V V') : RuleBx w W3 bx i A1 c1 A2 c2 fx V' :=
  ⟨blk2 hb h.1, blk2 hb h.2.1, blk2 hb h.2.2.1, h.2.2.2.trans (hb.mono h.2.2.2.size)⟩

set_option maxRecDepth 1000000 in
set_option maxHeartbeats 8000000 in
theorem Rule_ok (i : Nat) (hi : i < 43) (w : World) (HT : Hid (Laid w)) : Calls Tryz.prog 39 #[.int .i64 i] w (RetRl i w) := by
  have h1 : decide ((i : Int) < 0) = false := by simp
  have h2 : decide (43 ≤ (i : Int)) = false := by simp; omega
  go_enter Tryz.func39, Tryz.ntmps39
  go_upto_region 3 with fail
  obtain ⟨W1, hW1⟩ : ∃ W1, (w.alloc (.cells #[.int .i64 0, .int .i64 0, .slice none 0 0] 24)).alloc (.cells #[.int .i64 0, .int .i64 0, .slice none 0 0] 24) = W1 := ⟨_, rfl⟩
  have hb1 : Below w.heap.size w W1 := by rw [← hW1]; exact bl
  have p0 : W1.heap[w.heap.size]? = some (.cells #[.int .i64 0, .int .i64 0, .slice none 0 0] 24 (0, 0)) := by rw [← hW1]; exact alloc_old (blk_alloc _ _ _ rfl)
  have p1 : W1.heap[w.heap.size + 1]? = some (.cells #[.int .i64 0, .int .i64 0, .slice none 0 0] 24 (0, 0)) := by rw [← hW1]; exact blk_alloc _ _ _ (by simp)
  rw [hW1]
  clear hW1
  have hc := ruled_any i (by omega) W1 (Lib.hid (HT.out.below hb1))
  go_wp2_with fail
  refine hc.mono ?_
  clear hc
  rintro e w2 ⟨v1, v2, rfl, ho1, ho2, hb⟩
  obtain ⟨k1, k2, _⟩ := rule_ok i (by omega)
  have K1 := Lib.hid (okSide_of k1)
  have K2 := Lib.hid (okSide_of k2)
  obtain ⟨A1, c1, rfl, hc1, r1⟩ := ho1.rd (by have := K1.out.1; omega) (fun g hg => by have := (K1.out.2 g hg).1; omega)
  obtain ⟨A2, c2, rfl, hc2, r2⟩ := ho2.rd (by have := K2.out.1; omega) (fun g hg => by have := (K2.out.2 g hg).1; omega)
  have HO := Lib.hid (And.intro r1 r2)
  clear ho1 ho2 r1 r2 k1 k2
  obtain ⟨fx, hfx⟩ : ∃ fx, fitsF i = .func (.func fx) #[] #[] := ⟨_, rfl⟩
  rw [hfx]
  clear hfx
  have q0 := blk2 hb p0
  have q1 := blk2 hb p1
  have hb2 := hb1.trans (hb.mono hb1.size)
  clear hb hb1 p0 p1
  go_upto_region 4 with fail
  obtain ⟨W3, hW3⟩ : ∃ W3, w2.alloc (.cells #[.slice A1 (ruleL i).length c1, .slice A2 (ruleR i).length c2, .int .i64 (ruleW i), .int .i64 (ruleP i), .func (.func fx) #[] #[]] 88) = W3 := ⟨_, rfl⟩
  have hb23 : Below w2.heap.size w2 W3 := by rw [← hW3]; exact bl
  have x3 : W3.heap[w2.heap.size]? = some (.cells #[.slice A1 (ruleL i).length c1, .slice A2 (ruleR i).length c2, .int .i64 (ruleW i), .int .i64 (ruleP i), .func (.func fx) #[] #[]] 88 (0, 0)) := by rw [← hW3]; exact blk_alloc _ _ _ rfl
  rw [hW3]
  clear hW3
  have HB := Lib.hid (show RuleBx w W3 w2.heap.size i A1 c1 A2 c2 (.func (.func fx) #[] #[]) W3 from ⟨x3, blk2 hb23 q0, blk2 hb23 q1, Below.refl _ _⟩)
  have HR := Lib.hid (show ∀ V, Below W3.heap.size W3 V → RdG V A1 (ruleL i) ∧ RdG V A2 (ruleR i) from fun V h => ⟨HO.out.1.bG (hb23.trans (h.mono hb23.size)), HO.out.2.bG (hb23.trans (h.mono hb23.size))⟩)
  have hw3 := hb2.trans (hb23.mono hb2.size)
  have hlw := blk_lt q1
  have hz23 := hb23.size
  clear x3 q0 q1 hb23
  refine wp_region_st (by kernel_rfl) (.op 0 (.op 1 (.op 2 (.op 3 (.op 7 (.op 8 (.op 9 (.op 10 (.op 14 (.op 15 (.alt true 4 (.alt true 5 (.op 6 (.alt true 11 (.alt true 12 (.op 13 (.alt true 16 (.alt true 17 (.op 18 (.op 19 .fin)) .stop) .stop)) .stop) .stop)) (.alt false 11 (.alt true 5 (.op 6 (.alt true 12 (.op 13 (.alt true 16 (.alt true 17 (.op 18 (.op 19 .fin)) .stop) .stop)) .stop)) .stop) .stop)) (.alt false 11 (.alt true 4 (.alt true 5 (.op 6 (.alt true 12 (.op 13 (.alt true 16 (.alt true 17 (.op 18 (.op 19 .fin)) .stop) .stop)) .stop)) .stop) .stop) .stop)))))))))))) (by kernel_rfl) (by kernel_rfl) (by kernel_rfl) ?_
  generalize hV : World.drew W3 = V0
  have hw0 := (show Below W3.heap.size W3 V0 by rw [← hV]; exact bl).size
  replace HB := Lib.hid (HB.out.below (show Below W3.heap.size W3 V0 by rw [← hV]; exact bl))
  clear hV
  obtain ⟨a0, a1, a2, a3, a4, af⟩ := cells5 HB.out.1
  obtain ⟨b0, b1, b2, bf⟩ := cells3 HB.out.2.1
  obtain ⟨t0, t1, t2, tf⟩ := cells3 HB.out.2.2.1
  have la := blk_lt HB.out.1
  have lb := blk_lt HB.out.2.1
  have lt := blk_lt HB.out.2.2.1
  have hold := olds V0
  iterate 10 ((first|refine ST.q ?_|refine ST.m ?_|refine ST.n ?_|refine ST.v1 ?_ ST.stop|refine ST.k1 ?_ ST.stop);simp only [Act.put, pA, pB, pC])
  refine ST.v1 ?_ ?_
  · simp only [Act.put, pA, pB, pC]
    generalize hV : World.alloc V0 _ = V1
    have hb : Below V0.heap.size V0 V1 := by rw [← hV]; exact bl
    have HX4 := Lib.hid (show V1.heap[V0.heap.size]? = some (.cells #[.slice A1 (ruleL i).length c1] 22 (0, 0)) by rw [← hV]; exact blk_alloc _ _ _ rfl)
    replace HB := Lib.hid (HB.out.below hb)
    have hz0 := hb.size
    clear hV hb a0 a1 a2 a3 a4 af b0 b1 b2 bf t0 t1 t2 tf la lb lt hold
    obtain ⟨a0, a1, a2, a3, a4, af⟩ := cells5 HB.out.1
    obtain ⟨b0, b1, b2, bf⟩ := cells3 HB.out.2.1
    obtain ⟨t0, t1, t2, tf⟩ := cells3 HB.out.2.2.1
    have la := blk_lt HB.out.1
    have lb := blk_lt HB.out.2.1
    have lt := blk_lt HB.out.2.2.1
    have hold := olds V1
    refine ST.c1 ?_ ?_
    · refine (copied_any (some ⟨V0.heap.size, 0, none⟩) 1 [ruleL i] V1 (RdGs.one (by rw [cell_of_row _ _ 0 _ _ (0, 0) HX4.out]; rfl) hc1 (HR.out _ HB.out.2.2.2).1) (fun l hl g hg => by rw [List.mem_singleton.1 hl] at hg; have := (K1.out.2 g hg).1; omega) (by have := K1.out.1; simp; omega)).mono ?_
      rintro e V2 ⟨v, rfl, ho, hb⟩
      rw [List.flatten_singleton] at ho
      obtain ⟨A5, c5, rfl, _⟩ := ho.form'
      have HOL := Lib.hid ho.h
      replace HB := Lib.hid (HB.out.below hb)
      have hz1 := hb.size
      clear ho hb HX4 a0 a1 a2 a3 a4 af b0 b1 b2 bf t0 t1 t2 tf la lb lt hold
      obtain ⟨a0, a1, a2, a3, a4, af⟩ := cells5 HB.out.1
      obtain ⟨b0, b1, b2, bf⟩ := cells3 HB.out.2.1
      obtain ⟨t0, t1, t2, tf⟩ := cells3 HB.out.2.2.1
      have la := blk_lt HB.out.1
      have lb := blk_lt HB.out.2.1
      have lt := blk_lt HB.out.2.2.1
      have hold := olds V2
      refine ⟨_, rfl, sb, ?_⟩
      simp only [Act.put, pA, pB, pC]
      (first|refine ST.q ?_|refine ST.m ?_|refine ST.n ?_|refine ST.v1 ?_ ST.stop|refine ST.k1 ?_ ST.stop)
      simp only [Act.put, pA, pB, pC]
      refine ST.v1 ?_ ST.stop
      simp only [Act.put, pA, pB, pC]
      generalize hV : World.alloc V2 _ = V3
      have hb : Below V2.heap.size V2 V3 := by rw [← hV]; exact bl
      have HX11 := Lib.hid (show V3.heap[V2.heap.size]? = some (.cells #[.slice A2 (ruleR i).length c2] 22 (0, 0)) by rw [← hV]; exact blk_alloc _ _ _ rfl)
      replace HOL := Lib.hid (HOL.out.below hb)
      replace HB := Lib.hid (HB.out.below hb)
      have hz2 := hb.size
      clear hV hb a0 a1 a2 a3 a4 af b0 b1 b2 bf t0 t1 t2 tf la lb lt hold
      obtain ⟨a0, a1, a2, a3, a4, af⟩ := cells5 HB.out.1
      obtain ⟨b0, b1, b2, bf⟩ := cells3 HB.out.2.1
      obtain ⟨t0, t1, t2, tf⟩ := cells3 HB.out.2.2.1
      have la := blk_lt HB.out.1
      have lb := blk_lt HB.out.2.1
      have lt := blk_lt HB.out.2.2.1
      have hold := olds V3
      refine ST.c1 ?_ ST.stop
      refine (copied_any (some ⟨V2.heap.size, 0, none⟩) 1 [ruleR i] V3 (RdGs.one (by rw [cell_of_row _ _ 0 _ _ (0, 0) HX11.out]; rfl) hc2 (HR.out _ HB.out.2.2.2).2) (fun l hl g hg => by rw [List.mem_singleton.1 hl] at hg; have := (K2.out.2 g hg).1; omega) (by have := K2.out.1; simp; omega)).mono ?_
      rintro e V4 ⟨v, rfl, ho, hb⟩
      rw [List.flatten_singleton] at ho
      obtain ⟨A6, c6, rfl, _⟩ := ho.form'
      have HOR := Lib.hid ho.h
      replace HOL := Lib.hid (HOL.out.below (hb.mono (by omega)))
      replace HB := Lib.hid (HB.out.below hb)
      have hz3 := hb.size
      clear ho hb HX11 a0 a1 a2 a3 a4 af b0 b1 b2 bf t0 t1 t2 tf la lb lt hold
      obtain ⟨a0, a1, a2, a3, a4, af⟩ := cells5 HB.out.1
      obtain ⟨b0, b1, b2, bf⟩ := cells3 HB.out.2.1
      obtain ⟨t0, t1, t2, tf⟩ := cells3 HB.out.2.2.1
      have la := blk_lt HB.out.1
      have lb := blk_lt HB.out.2.1
      have lt := blk_lt HB.out.2.2.1
      have hold := olds V4
      have hn1 : (w.heap.size = w2.heap.size) = False := by simp; omega
      have hn2 : (w.heap.size + 1 = w2.heap.size) = False := by simp; omega
      refine ⟨_, rfl, sb, ?_⟩
      simp only [Act.put, pA, pB, pC]
      iterate 5 ((first|refine ST.q ?_|refine ST.m ?_|refine ST.n ?_|refine ST.v1 ?_ ST.stop|refine ST.k1 ?_ ST.stop);simp only [Act.put, pA, pB, pC])
      simp only [ST]
      go_wp2
      have hBF := hw3.trans (HB.out.2.2.2.mono hw3.size)
      have hzV := HB.out.2.2.2.size
      refine bodyPost_ret (results_list (rs := [.cell 2 24, .cell 3 24, .tmp 4, .tmp 5]) rfl (by simp) (.cell w.heap.size 24 _ _ _ rfl ((set3n (by omega)).trans (set3 HB.out.2.1)) Tryz.underlying24 rfl (by kernel_rfl) (.cell (w.heap.size + 1) 24 _ _ _ rfl (set3 ((set3n (by omega)).trans HB.out.2.2.1)) Tryz.underlying24 rfl (by kernel_rfl) (.tmp (.tmp .nil))))) rfl ?_
      refine ⟨A5, c5, A6, c6, V1.heap.size, V2.heap.size, V3.heap.size, rfl, HOL.out.kept fun k _ _ => (set3n (by omega)).trans (set3n (by omega)), ?_, by omega, by omega, by omega, by simp; try omega, ?_⟩
      · have := HOR.out.kept (w1 := ((((((V4.setCell ⟨w.heap.size, 0, none⟩ (.int .i64 (ruleW i))).setCell ⟨w.heap.size, 1, none⟩ (.int .i64 0)).setCell ⟨w.heap.size, 2, none⟩ (.slice A5 (ruleL i).length c5)).setCell ⟨w.heap.size + 1, 0, none⟩ (.int .i64 (ruleW i))).setCell ⟨w.heap.size + 1, 1, none⟩ (.int .i64 0)).setCell ⟨w.heap.size + 1, 2, none⟩ (.slice A6 (ruleR i).length c6))) fun k _ _ => (set3n (by omega)).trans (set3n (by omega))
        simpa using this
      · exact (((((hBF.setCell (Nat.le_refl _) _).setCell (Nat.le_refl _) _).setCell (Nat.le_refl _) _).setCell (by simp) _).setCell (by simp) _).setCell (by simp) _
    refine ST.v1 ?_ ST.stop
    simp only [Act.put, pA, pB, pC]
    generalize hV : World.alloc V1 _ = V2
    have hb : Below V1.heap.size V1 V2 := by rw [← hV]; exact bl
    have HX11 := Lib.hid (show V2.heap[V1.heap.size]? = some (.cells #[.slice A2 (ruleR i).length c2] 22 (0, 0)) by rw [← hV]; exact blk_alloc _ _ _ rfl)
    replace HX4 := Lib.hid (blk2 hb HX4.out)
    replace HB := Lib.hid (HB.out.below hb)
    have hz1 := hb.size
    clear hV hb a0 a1 a2 a3 a4 af b0 b1 b2 bf t0 t1 t2 tf la lb lt hold
    obtain ⟨a0, a1, a2, a3, a4, af⟩ := cells5 HB.out.1
    obtain ⟨b0, b1, b2, bf⟩ := cells3 HB.out.2.1
    obtain ⟨t0, t1, t2, tf⟩ := cells3 HB.out.2.2.1
    have la := blk_lt HB.out.1
    have lb := blk_lt HB.out.2.1
    have lt := blk_lt HB.out.2.2.1
    have hold := olds V2
    refine ST.c1 ?_ ST.stop
    refine (copied_any (some ⟨V0.heap.size, 0, none⟩) 1 [ruleL i] V2 (RdGs.one (by rw [cell_of_row _ _ 0 _ _ (0, 0) HX4.out]; rfl) hc1 (HR.out _ HB.out.2.2.2).1) (fun l hl g hg => by rw [List.mem_singleton.1 hl] at hg; have := (K1.out.2 g hg).1; omega) (by have := K1.out.1; simp; omega)).mono ?_
    rintro e V3 ⟨v, rfl, ho, hb⟩
    rw [List.flatten_singleton] at ho
    obtain ⟨A5, c5, rfl, _⟩ := ho.form'
    have HOL := Lib.hid ho.h
    replace HX11 := Lib.hid (blk2 hb HX11.out)
    replace HB := Lib.hid (HB.out.below hb)
    have hz2 := hb.size
    clear ho hb HX4 a0 a1 a2 a3 a4 af b0 b1 b2 bf t0 t1 t2 tf la lb lt hold
    obtain ⟨a0, a1, a2, a3, a4, af⟩ := cells5 HB.out.1
    obtain ⟨b0, b1, b2, bf⟩ := cells3 HB.out.2.1
    obtain ⟨t0, t1, t2, tf⟩ := cells3 HB.out.2.2.1
    have la := blk_lt HB.out.1
    have lb := blk_lt HB.out.2.1
    have lt := blk_lt HB.out.2.2.1
    have hold := olds V3
    refine ⟨_, rfl, sb, ?_⟩
    simp only [Act.put, pA, pB, pC]
    (first|refine ST.q ?_|refine ST.m ?_|refine ST.n ?_|refine ST.v1 ?_ ST.stop|refine ST.k1 ?_ ST.stop)
    simp only [Act.put, pA, pB, pC]
    refine ST.c1 ?_ ST.stop
    refine (copied_any (some ⟨V1.heap.size, 0, none⟩) 1 [ruleR i] V3 (RdGs.one (by rw [cell_of_row _ _ 0 _ _ (0, 0) HX11.out]; rfl) hc2 (HR.out _ HB.out.2.2.2).2) (fun l hl g hg => by rw [List.mem_singleton.1 hl] at hg; have := (K2.out.2 g hg).1; omega) (by have := K2.out.1; simp; omega)).mono ?_
    rintro e V4 ⟨v, rfl, ho, hb⟩
    rw [List.flatten_singleton] at ho
    obtain ⟨A6, c6, rfl, _⟩ := ho.form'
    have HOR := Lib.hid ho.h
    replace HOL := Lib.hid (HOL.out.below (hb.mono (by omega)))
    replace HB := Lib.hid (HB.out.below hb)
    have hz3 := hb.size
    clear ho hb HX11 a0 a1 a2 a3 a4 af b0 b1 b2 bf t0 t1 t2 tf la lb lt hold
    obtain ⟨a0, a1, a2, a3, a4, af⟩ := cells5 HB.out.1
    obtain ⟨b0, b1, b2, bf⟩ := cells3 HB.out.2.1
    obtain ⟨t0, t1, t2, tf⟩ := cells3 HB.out.2.2.1
    have la := blk_lt HB.out.1
    have lb := blk_lt HB.out.2.1
    have lt := blk_lt HB.out.2.2.1
    have hold := olds V4
    have hn1 : (w.heap.size = w2.heap.size) = False := by simp; omega
    have hn2 : (w.heap.size + 1 = w2.heap.size) = False := by simp; omega
    refine ⟨_, rfl, sb, ?_⟩
    simp only [Act.put, pA, pB, pC]
    iterate 5 ((first|refine ST.q ?_|refine ST.m ?_|refine ST.n ?_|refine ST.v1 ?_ ST.stop|refine ST.k1 ?_ ST.stop);simp only [Act.put, pA, pB, pC])
    simp only [ST]
    go_wp2
    have hBF := hw3.trans (HB.out.2.2.2.mono hw3.size)
    have hzV := HB.out.2.2.2.size
    refine bodyPost_ret (results_list (rs := [.cell 2 24, .cell 3 24, .tmp 4, .tmp 5]) rfl (by simp) (.cell w.heap.size 24 _ _ _ rfl ((set3n (by omega)).trans (set3 HB.out.2.1)) Tryz.underlying24 rfl (by kernel_rfl) (.cell (w.heap.size + 1) 24 _ _ _ rfl (set3 ((set3n (by omega)).trans HB.out.2.2.1)) Tryz.underlying24 rfl (by kernel_rfl) (.tmp (.tmp .nil))))) rfl ?_
    refine ⟨A5, c5, A6, c6, V2.heap.size, V3.heap.size, V3.heap.size, rfl, HOL.out.kept fun k _ _ => (set3n (by omega)).trans (set3n (by omega)), ?_, by omega, by omega, by omega, by simp; try omega, ?_⟩
    · have := HOR.out.kept (w1 := ((((((V4.setCell ⟨w.heap.size, 0, none⟩ (.int .i64 (ruleW i))).setCell ⟨w.heap.size, 1, none⟩ (.int .i64 0)).setCell ⟨w.heap.size, 2, none⟩ (.slice A5 (ruleL i).length c5)).setCell ⟨w.heap.size + 1, 0, none⟩ (.int .i64 (ruleW i))).setCell ⟨w.heap.size + 1, 1, none⟩ (.int .i64 0)).setCell ⟨w.heap.size + 1, 2, none⟩ (.slice A6 (ruleR i).length c6))) fun k _ _ => (set3n (by omega)).trans (set3n (by omega))
      simpa using this
    · exact (((((hBF.setCell (Nat.le_refl _) _).setCell (Nat.le_refl _) _).setCell (Nat.le_refl _) _).setCell (by simp) _).setCell (by simp) _).setCell (by simp) _
  refine ST.v1 ?_ ST.stop
  simp only [Act.put, pA, pB, pC]
  generalize hV : World.alloc V0 _ = V1
  have hb : Below V0.heap.size V0 V1 := by rw [← hV]; exact bl
  have HX11 := Lib.hid (show V1.heap[V0.heap.size]? = some (.cells #[.slice A2 (ruleR i).length c2] 22 (0, 0)) by rw [← hV]; exact blk_alloc _ _ _ rfl)
  replace HB := Lib.hid (HB.out.below hb)
  have hz0 := hb.size
  clear hV hb a0 a1 a2 a3 a4 af b0 b1 b2 bf t0 t1 t2 tf la lb lt hold
  obtain ⟨a0, a1, a2, a3, a4, af⟩ := cells5 HB.out.1
  obtain ⟨b0, b1, b2, bf⟩ := cells3 HB.out.2.1
  obtain ⟨t0, t1, t2, tf⟩ := cells3 HB.out.2.2.1
  have la := blk_lt HB.out.1
  have lb := blk_lt HB.out.2.1
  have lt := blk_lt HB.out.2.2.1
  have hold := olds V1
  refine ST.v1 ?_ ST.stop
  simp only [Act.put, pA, pB, pC]
  generalize hV : World.alloc V1 _ = V2
  have hb : Below V1.heap.size V1 V2 := by rw [← hV]; exact bl
  have HX4 := Lib.hid (show V2.heap[V1.heap.size]? = some (.cells #[.slice A1 (ruleL i).length c1] 22 (0, 0)) by rw [← hV]; exact blk_alloc _ _ _ rfl)
  replace HX11 := Lib.hid (blk2 hb HX11.out)
  replace HB := Lib.hid (HB.out.below hb)
  have hz1 := hb.size
  clear hV hb a0 a1 a2 a3 a4 af b0 b1 b2 bf t0 t1 t2 tf la lb lt hold
  obtain ⟨a0, a1, a2, a3, a4, af⟩ := cells5 HB.out.1
  obtain ⟨b0, b1, b2, bf⟩ := cells3 HB.out.2.1
  obtain ⟨t0, t1, t2, tf⟩ := cells3 HB.out.2.2.1
  have la := blk_lt HB.out.1
  have lb := blk_lt HB.out.2.1
  have lt := blk_lt HB.out.2.2.1
  have hold := olds V2
  refine ST.c1 ?_ ST.stop
  refine (copied_any (some ⟨V1.heap.size, 0, none⟩) 1 [ruleL i] V2 (RdGs.one (by rw [cell_of_row _ _ 0 _ _ (0, 0) HX4.out]; rfl) hc1 (HR.out _ HB.out.2.2.2).1) (fun l hl g hg => by rw [List.mem_singleton.1 hl] at hg; have := (K1.out.2 g hg).1; omega) (by have := K1.out.1; simp; omega)).mono ?_
  rintro e V3 ⟨v, rfl, ho, hb⟩
  rw [List.flatten_singleton] at ho
  obtain ⟨A5, c5, rfl, _⟩ := ho.form'
  have HOL := Lib.hid ho.h
  replace HX11 := Lib.hid (blk2 hb HX11.out)
  replace HB := Lib.hid (HB.out.below hb)
  have hz2 := hb.size
  clear ho hb HX4 a0 a1 a2 a3 a4 af b0 b1 b2 bf t0 t1 t2 tf la lb lt hold
  obtain ⟨a0, a1, a2, a3, a4, af⟩ := cells5 HB.out.1
  obtain ⟨b0, b1, b2, bf⟩ := cells3 HB.out.2.1
  obtain ⟨t0, t1, t2, tf⟩ := cells3 HB.out.2.2.1
  have la := blk_lt HB.out.1
  have lb := blk_lt HB.out.2.1
  have lt := blk_lt HB.out.2.2.1
  have hold := olds V3
  refine ⟨_, rfl, sb, ?_⟩
  simp only [Act.put, pA, pB, pC]
  (first|refine ST.q ?_|refine ST.m ?_|refine ST.n ?_|refine ST.v1 ?_ ST.stop|refine ST.k1 ?_ ST.stop)
  simp only [Act.put, pA, pB, pC]
  refine ST.c1 ?_ ST.stop
  refine (copied_any (some ⟨V0.heap.size, 0, none⟩) 1 [ruleR i] V3 (RdGs.one (by rw [cell_of_row _ _ 0 _ _ (0, 0) HX11.out]; rfl) hc2 (HR.out _ HB.out.2.2.2).2) (fun l hl g hg => by rw [List.mem_singleton.1 hl] at hg; have := (K2.out.2 g hg).1; omega) (by have := K2.out.1; simp; omega)).mono ?_
  rintro e V4 ⟨v, rfl, ho, hb⟩
  rw [List.flatten_singleton] at ho
  obtain ⟨A6, c6, rfl, _⟩ := ho.form'
  have HOR := Lib.hid ho.h
  replace HOL := Lib.hid (HOL.out.below (hb.mono (by omega)))
  replace HB := Lib.hid (HB.out.below hb)
  have hz3 := hb.size
  clear ho hb HX11 a0 a1 a2 a3 a4 af b0 b1 b2 bf t0 t1 t2 tf la lb lt hold
  obtain ⟨a0, a1, a2, a3, a4, af⟩ := cells5 HB.out.1
  obtain ⟨b0, b1, b2, bf⟩ := cells3 HB.out.2.1
  obtain ⟨t0, t1, t2, tf⟩ := cells3 HB.out.2.2.1
  have la := blk_lt HB.out.1
  have lb := blk_lt HB.out.2.1
  have lt := blk_lt HB.out.2.2.1
  have hold := olds V4
  have hn1 : (w.heap.size = w2.heap.size) = False := by simp; omega
  have hn2 : (w.heap.size + 1 = w2.heap.size) = False := by simp; omega
  refine ⟨_, rfl, sb, ?_⟩
  simp only [Act.put, pA, pB, pC]
  iterate 5 ((first|refine ST.q ?_|refine ST.m ?_|refine ST.n ?_|refine ST.v1 ?_ ST.stop|refine ST.k1 ?_ ST.stop);simp only [Act.put, pA, pB, pC])
  simp only [ST]
  go_wp2
  have hBF := hw3.trans (HB.out.2.2.2.mono hw3.size)
  have hzV := HB.out.2.2.2.size
  refine bodyPost_ret (results_list (rs := [.cell 2 24, .cell 3 24, .tmp 4, .tmp 5]) rfl (by simp) (.cell w.heap.size 24 _ _ _ rfl ((set3n (by omega)).trans (set3 HB.out.2.1)) Tryz.underlying24 rfl (by kernel_rfl) (.cell (w.heap.size + 1) 24 _ _ _ rfl (set3 ((set3n (by omega)).trans HB.out.2.2.1)) Tryz.underlying24 rfl (by kernel_rfl) (.tmp (.tmp .nil))))) rfl ?_
  refine ⟨A5, c5, A6, c6, V2.heap.size, V3.heap.size, V3.heap.size, rfl, HOL.out.kept fun k _ _ => (set3n (by omega)).trans (set3n (by omega)), ?_, by omega, by omega, by omega, by simp; try omega, ?_⟩
  · have := HOR.out.kept (w1 := ((((((V4.setCell ⟨w.heap.size, 0, none⟩ (.int .i64 (ruleW i))).setCell ⟨w.heap.size, 1, none⟩ (.int .i64 0)).setCell ⟨w.heap.size, 2, none⟩ (.slice A5 (ruleL i).length c5)).setCell ⟨w.heap.size + 1, 0, none⟩ (.int .i64 (ruleW i))).setCell ⟨w.heap.size + 1, 1, none⟩ (.int .i64 0)).setCell ⟨w.heap.size + 1, 2, none⟩ (.slice A6 (ruleR i).length c6))) fun k _ _ => (set3n (by omega)).trans (set3n (by omega))
    simpa using this
  · exact (((((hBF.setCell (Nat.le_refl _) _).setCell (Nat.le_refl _) _).setCell (Nat.le_refl _) _).setCell (by simp) _).setCell (by simp) _).setCell (by simp) _
end Go.Proofs.YtfommmijojfdbaaGreatDoor
