/- Part 24 of the proof that 'spoondriftlaw19.RulesApplies' holds for every input; it has no condition beyond the statement's own. -/
import Derived.Test.YtfommmijojfdbaaGreatDoorZ20
set_option linter.all false
namespace Go.Proofs.YtfommmijojfdbaaGreatDoor
open Go.RowKit
set_option maxRecDepth 100000 in
set_option maxHeartbeats 4000000 in
theorem drawn_any (B : Nat) (A D : Option Addr) (k m : Nat) (c d : C) (e1 e2 : Int) (w : World) (h : Own 3 55 B w (.slice A c.gates.length k) c.gates) (hl : c.gates.length ≤ 1000000) (hg : ∀ g ∈ c.gates, g.wires.length ≤ 1000000) (h' : RdG w D d.gates) (hB : B ≤ w.heap.size) :
    Calls Tryz.prog 20 #[.agg #[.int .i64 c.wires, .int .i64 c.bits, .slice A c.gates.length k], .agg #[.int .i64 d.wires, .int .i64 d.bits, .slice D d.gates.length m], .int .i64 e1, .int .i64 e2] w fun e w' => e = .returned (.bool (decide (e1 = e2) && decide (c = d))) ∧ Below B w w' := by
  obtain ⟨A9, c9, e9, _, hr⟩ := h.rd (by omega) (fun g hg' => by have := hg g hg'; omega)
  cases e9
  have HH := Lib.hid (And.intro h (And.intro h' hr))
  clear h h' hr hg
  obtain ⟨W1, hW1⟩ : ∃ W1, (w.alloc (.cells #[.int .i64 c.wires, .int .i64 c.bits, .slice A c.gates.length k] 24)).alloc (.cells #[.int .i64 d.wires, .int .i64 d.bits, .slice D d.gates.length m] 24) = W1 := ⟨_, rfl⟩
  have hb1 : Below w.heap.size w W1 := by rw [← hW1]; (repeat (first|exact bR _ _|assumption|apply bN|apply bA|apply bD))
  have p0 : W1.heap[w.heap.size]? = some (.cells #[.int .i64 c.wires, .int .i64 c.bits, .slice A c.gates.length k] 24 (0, 0)) := by rw [← hW1]; exact alloc_old (blk_alloc _ _ _ rfl)
  have p1 : W1.heap[w.heap.size + 1]? = some (.cells #[.int .i64 d.wires, .int .i64 d.bits, .slice D d.gates.length m] 24 (0, 0)) := by rw [← hW1]; exact blk_alloc _ _ _ (by simp)
  by_cases he : e1 = e2
  · subst he
    have hs := kSame_any A D k m c d W1 (HH.out.2.2.bG hb1) (HH.out.2.1.bG hb1)
    obtain ⟨q, hq⟩ : ∃ q, decide (c = d) = q := ⟨_, rfl⟩
    rw [hq] at hs
    have HQ := Lib.hid hq
    clear hq
    go_enter Tryz.func20, Tryz.ntmps20
    go_upto_region 1 with fail
    try rw [hW1]
    clear hW1
    obtain ⟨k0, k1, k2, kf⟩ := cells3 p0
    obtain ⟨t0, t1, t2, tf⟩ := cells3 p1
    have HP := Lib.hid (And.intro p0 (And.intro p1 hb1))
    clear p0 p1 hb1
    go_wp2_with fail
    refine hs.mono ?_
    clear hs
    rintro e w2 ⟨rfl, hb⟩
    have q0 := blk2 hb HP.out.1
    have hb2 := HP.out.2.2.trans (hb.mono HP.out.2.2.size)
    clear k0 k1 k2 kf t0 t1 t2 tf
    obtain ⟨k0, k1, k2, kf⟩ := cells3 q0
    have hsp := Spoil_any B A k c w2 (HH.out.1.below hb2) (by omega) (Nat.le_trans hB hb2.size)
    have HB2 := Lib.hid hb2
    clear q0 hb2 hb
    go_wp2_with fail
    refine hsp.mono ?_
    clear hsp
    rintro e w3 ⟨⟨v, rfl⟩, hb3⟩
    have HB3 := Lib.hid ((HB2.out.mono hB).trans hb3)
    clear hb3 k0 k1 k2 kf
    go_wp2
    go_ret
    exact ⟨ret_bool (by rw [HQ.out]; simp), HB3.out⟩
  · have hne : (e1 == e2) = false := by simpa using he
    have HE := Lib.hid he
    clear he
    go_enter Tryz.func20, Tryz.ntmps20
    go_upto_region 1 with fail
    try rw [hW1]
    clear hW1
    obtain ⟨k0, k1, k2, kf⟩ := cells3 p0
    have hsp := Spoil_any B A k c W1 (HH.out.1.below hb1) (by omega) (Nat.le_trans hB hb1.size)
    have HB2 := Lib.hid hb1
    clear p0 p1 hb1
    go_wp2_with fail
    refine hsp.mono ?_
    clear hsp
    rintro e w3 ⟨⟨v, rfl⟩, hb3⟩
    have HB3 := Lib.hid ((HB2.out.mono hB).trans hb3)
    clear hb3 k0 k1 k2 kf
    go_wp2
    go_ret
    exact ⟨ret_bool (by rw [decide_eq_false HE.out]; rfl), HB3.out⟩
end Go.Proofs.YtfommmijojfdbaaGreatDoor
