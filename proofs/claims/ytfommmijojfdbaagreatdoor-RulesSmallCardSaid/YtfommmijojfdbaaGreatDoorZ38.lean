/- Part 39 of the proof that 'spoondriftlaw19.RulesApplies' holds for every input; it has no condition beyond the statement's own. -/
import Derived.Test.YtfommmijojfdbaaGreatDoorZ37
set_option linter.all false
namespace Go.Proofs.YtfommmijojfdbaaGreatDoor
open Go.RowKit Go.Shelf
attribute [local go_sem] Oper.semAt_some
theorem run_loadVar_one {P : Program} {W : World} {t : TypeId} {b : Nat} {v : Value} (ha : (isAgg t).run P W = .ok false W) (hc : W.cell? ⟨b, 0, none⟩ = some v) : (loadVar t ⟨b, 0, none⟩).run P W = .ok v W := by
  unfold loadVar
  simp [Sem.run_bind, ha, hc]
theorem results_two {P : Program} {fn : Func} {p q : Tmp} {t1 t2 : TypeId} (h : fn.results = #[.cell p t1, .cell q t2]) {tmps : Array Value} {W : World} {b1 b2 : Nat} {v1 v2 : Value} (hp : tmps.getD p undef = .pointer (some ⟨b1, 0, none⟩)) (hq : tmps.getD q undef = .pointer (some ⟨b2, 0, none⟩))
    (h1 : (isAgg t1).run P W = .ok false W) (h2 : (isAgg t2).run P W = .ok false W) (c1 : W.cell? ⟨b1, 0, none⟩ = some v1) (c2 : W.cell? ⟨b2, 0, none⟩ = some v2) : (results fn tmps).run P W = .ok (.tuple #[v1, v2]) W := by
  unfold results
  rw [h, List.mapM_toArray]
  simp only [Sem.run_bind, Sem.run_map, List.mapM_cons, List.mapM_nil, hp, hq, asAddr, Sem.run_pure, Result.andThen_ok, run_loadVar_one h1 c1, run_loadVar_one h2 c2]
  simp
def RetL (x : Option (List M)) (w : World) (e : Ending) (w' : World) : Prop :=
  ∃ v q, e = .returned (.tuple #[v, .bool q]) ∧ q = x.isSome ∧ App (EMo 3 w.heap.size) 27 4 w.heap.size w' v (x.getD []) ∧ Below w.heap.size w w'
set_option maxRecDepth 100000 in
set_option maxHeartbeats 4000000 in
theorem reached_zero (A D : Option Addr) (k m : Nat) (c d : C) (w : World) (h : RdG w A c.gates) (h' : RdG w D d.gates) :
    Calls Tryz.prog 80 #[.agg #[.int .i64 c.wires, .int .i64 c.bits, .slice A c.gates.length k], .agg #[.int .i64 d.wires, .int .i64 d.bits, .slice D d.gates.length m], .int .i64 0] w (RetL (reachedL 0 c d) w) := by
  have HH := Lib.hid (And.intro h h')
  clear h h'
  obtain ⟨W1, hW1⟩ : ∃ W1, ((((w.alloc (.cells #[.int .i64 c.wires, .int .i64 c.bits, .slice A c.gates.length k] 24)).alloc (.cells #[.int .i64 d.wires, .int .i64 d.bits, .slice D d.gates.length m] 24)).alloc (.cells #[.int .i64 0] 3)).alloc (.cells #[.slice none 0 0] 30)).alloc (.cells #[.bool false] 4) = W1 := ⟨_, rfl⟩
  have hb1 : Below w.heap.size w W1 := by rw [← hW1]; (repeat (first|exact bR _ _|assumption|apply bN|apply bA|apply bD))
  have p0 : W1.heap[w.heap.size]? = some (.cells #[.int .i64 c.wires, .int .i64 c.bits, .slice A c.gates.length k] 24 (0, 0)) := by rw [← hW1]; exact alloc_old (alloc_old (alloc_old (alloc_old (blk_alloc _ _ _ rfl))))
  have p1 : W1.heap[w.heap.size + 1]? = some (.cells #[.int .i64 d.wires, .int .i64 d.bits, .slice D d.gates.length m] 24 (0, 0)) := by rw [← hW1]; exact alloc_old (alloc_old (alloc_old (blk_alloc _ _ _ (by simp))))
  have p2 : W1.heap[w.heap.size + 2]? = some (.cells #[.int .i64 0] 3 (0, 0)) := by rw [← hW1]; exact alloc_old (alloc_old (blk_alloc _ _ _ (by simp)))
  have p3 : W1.heap[w.heap.size + 3]? = some (.cells #[.slice none 0 0] 30 (0, 0)) := by rw [← hW1]; exact alloc_old (blk_alloc _ _ _ (by simp))
  have p4 : W1.heap[w.heap.size + 4]? = some (.cells #[.bool false] 4 (0, 0)) := by rw [← hW1]; exact blk_alloc _ _ _ (by simp)
  have hal := alike_any A D k m c d W1 (HH.out.1.bG hb1) (HH.out.2.bG hb1)
  obtain ⟨q, hq⟩ : ∃ q, decide (c = d) = q := ⟨_, rfl⟩
  rw [hq] at hal
  have HQ := Lib.hid (show reachedL 0 c d = if q = true then some [] else none by unfold reachedL; rw [← hq]; simp)
  obtain ⟨a0, a1, a2, af⟩ := cells3 p0
  obtain ⟨b0, b1, b2, bf⟩ := cells3 p1
  have c2 := Boxed.cell p2
  have HP := Lib.hid (And.intro p3 (And.intro p4 hb1))
  clear p0 p1 p2 p3 p4 hb1 hq
  go_enter Tryz.func80, Tryz.ntmps80
  go_upto_region 1 with fail
  try rw [hW1]
  clear hW1
  go_wp2_with fail
  refine hal.mono ?_
  clear hal
  rintro e w2 ⟨rfl, hb⟩
  have q3 := blk2 hb HP.out.1
  have q4 := blk2 hb HP.out.2.1
  have hb2 := HP.out.2.2.trans (hb.mono HP.out.2.2.size)
  have e3 := Boxed.cell q3
  have e3' := Boxed.frozen q3
  have e4 := Boxed.cell q4
  have e4' := Boxed.frozen q4
  have HE := Lib.hid (And.intro q3 (And.intro q4 hb2))
  clear q3 q4 hb2 hb a0 a1 a2 af b0 b1 b2 bf c2
  go_wp2
  have o3 : (w2.setCell ⟨w.heap.size + 3, 0, none⟩ (.slice none 0 0)).heap[w.heap.size + 3]? = some (.cells #[.slice none 0 0] 30 (0, 0)) := Boxed.set _ HE.out.1
  have o4 : (w2.setCell ⟨w.heap.size + 3, 0, none⟩ (.slice none 0 0)).heap[w.heap.size + 4]? = some (.cells #[.bool false] 4 (0, 0)) := (heap_setCell_other _ _ _ _ (by simp)).trans HE.out.2.1
  refine bodyPost_ret (results_two rfl rfl rfl (by kernel_rfl) (by kernel_rfl) (Boxed.cell (show ((w2.setCell ⟨w.heap.size + 3, 0, none⟩ (.slice none 0 0)).setCell ⟨w.heap.size + 4, 0, none⟩ (.bool q)).heap[w.heap.size + 3]? = some (.cells #[.slice none 0 0] 30 (0, 0)) from (heap_setCell_other _ _ _ _ (by simp)).trans o3)) (Boxed.cell (Boxed.set (.bool q) o4))) rfl ⟨_, q, rfl, ?_, ?_, (HE.out.2.2.setCell (by simp; omega) _).setCell (by simp; omega) _⟩
  · rw [HQ.out]; cases q <;> rfl
  · rw [HQ.out]; cases q <;> exact App.nil _ _ _ _ _
end Go.Proofs.YtfommmijojfdbaaGreatDoor
