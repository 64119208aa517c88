/- What the packed texts left out. (Written by mkX0.py.) -/
import Derived.Test.YtfommmijojfdbaaGreatDoorZ09
set_option linter.all false
namespace Go.Proofs.YtfommmijojfdbaaGreatDoor
open Go.RowKit
set_option maxRecDepth 100000 in
set_option maxHeartbeats 4000000 in
theorem rSame4_any (A B : Option Addr) (k m : Nat) (c d : C) (w : World) (h : RdG w A c.gates) (h' : RdG w B d.gates) :
    Calls Tryz.prog 71 #[.agg #[.int .i64 c.wires, .int .i64 c.bits, .slice A c.gates.length k], .agg #[.int .i64 d.wires, .int .i64 d.bits, .slice B d.gates.length m]] w fun e w' => e = .returned (.bool (decide (c = d))) ∧ Below w.heap.size w w' := by
  have hl := h.1
  have hl' := h'.1
  have HH := Lib.hid (And.intro h h')
  clear h h'
  go_enter Tryz.func71, Tryz.ntmps71
  by_cases h1 : c.wires = d.wires
  case neg =>
    have t1 : (c.wires != d.wires) = true := by simpa using h1
    have H1 := Lib.hid h1
    clear h1
    go_wp2
    go_ret
    exact ⟨ret_bool (by rw [eq_comm, decide_eq_false_iff_not]; exact fun e => H1.out (by rw [e])), by (repeat (first|exact bR _ _|assumption|apply bN|apply bA|apply bD))⟩
  have t1 : (c.wires != d.wires) = false := by simpa using h1
  by_cases h2 : c.bits = d.bits
  case neg =>
    have t2 : (c.bits != d.bits) = true := by simpa using h2
    have H2 := Lib.hid h2
    clear h1 h2
    go_wp2
    go_ret
    exact ⟨ret_bool (by rw [eq_comm, decide_eq_false_iff_not]; exact fun e => H2.out (by rw [e])), by (repeat (first|exact bR _ _|assumption|apply bN|apply bA|apply bD))⟩
  have t2 : (c.bits != d.bits) = false := by simpa using h2
  by_cases h4 : c.gates.length = d.gates.length
  case neg =>
    have t4 : ((c.gates.length : Int) != (d.gates.length : Int)) = true := by simp; omega
    have H4 := Lib.hid h4
    clear h1 h2 h4
    go_wp2
    go_ret
    exact ⟨ret_bool (by rw [eq_comm, decide_eq_false_iff_not]; exact fun e => H4.out (by rw [e])), by (repeat (first|exact bR _ _|assumption|apply bN|apply bA|apply bD))⟩
  have t4 : ((c.gates.length : Int) != (d.gates.length : Int)) = false := by simp; omega
  have hle : c.gates.length ≤ d.gates.length := by omega
  have HS := Lib.hid (And.intro h1 (And.intro h2 h4))
  clear h1 h2 h4
  go_wp2
  obtain ⟨W1, hW1⟩ : ∃ W1, (w.alloc (.cells #[.int .i64 c.wires, .int .i64 c.bits, .slice A c.gates.length k] 24)).alloc (.cells #[.int .i64 d.wires, .int .i64 d.bits, .slice B d.gates.length m] 24) = W1 := ⟨_, rfl⟩
  have hb1 : Below w.heap.size w W1 := by rw [← hW1]; (repeat (first|exact bR _ _|assumption|apply bN|apply bA|apply bD))
  have p0 : W1.heap[w.heap.size]? = some (.cells #[.int .i64 c.wires, .int .i64 c.bits, .slice A c.gates.length k] 24 (0, 0)) := by rw [← hW1]; exact fst2 _ _ _
  have p1 : W1.heap[w.heap.size + 1]? = some (.cells #[.int .i64 d.wires, .int .i64 d.bits, .slice B d.gates.length m] 24 (0, 0)) := by rw [← hW1]; exact snd2 _ _ _
  rw [hW1]
  clear hW1 t1 t2 t4
  go_loopw [5] (fun i wr => ∃ j : Nat, j ≤ c.gates.length ∧ i = .int .i64 j ∧ Hid (c.gates.take j = d.gates.take j) ∧ Hid (wr.heap[w.heap.size]? = some (.cells #[.int .i64 c.wires, .int .i64 c.bits, .slice A c.gates.length k] 24 (0, 0)) ∧ wr.heap[w.heap.size + 1]? = some (.cells #[.int .i64 d.wires, .int .i64 d.bits, .slice B d.gates.length m] 24 (0, 0))) ∧ Below w.heap.size w wr) (fun i _ => c.gates.length - (intOf i).toNat)
  case atStart => exact ⟨0, Nat.zero_le _, rfl, Lib.hid (by simp), Lib.hid ⟨p0, p1⟩, hb1⟩
  case round =>
    clear hb1 p0 p1
    obtain ⟨j, hj, rfl, HI, HP, hb⟩ := hrel
    obtain ⟨k0, k1, k2, kf⟩ := cells3 HP.out.1
    obtain ⟨m0, m1, m2, mf⟩ := cells3 HP.out.2
    by_cases hlt : j < c.gates.length
    · have hlt' : j < d.gates.length := by omega
      obtain ⟨b, o, B0, d0, rfl, g0, g1, g2, g3, hd, hrd⟩ := (HH.out.1.bG hb).gate j hlt
      obtain ⟨b', o', B1, d1, rfl, i0, i1, i2, i3, hd', hrd'⟩ := (HH.out.2.bG hb).gate j hlt'
      have HB := Lib.hid (And.intro hrd (And.intro hrd' hb))
      obtain ⟨g, hg⟩ : ∃ g, c.gates[j] = g := ⟨_, rfl⟩
      obtain ⟨h, hh⟩ : ∃ g, d.gates[j] = g := ⟨_, rfl⟩
      have HG := Lib.hid (And.intro hg hh)
      rw [hg] at g0 g1 g2 g3 hd HB
      rw [hh] at i0 i1 i2 i3 hd' HB
      have hbr0 : Below wr.heap.size wr wr.drew := by (repeat (first|exact bR _ _|assumption|apply bN|apply bA|apply bD))
      clear hrd hrd' hb hg hh hd hd'
      obtain ⟨q, hq⟩ : ∃ q, decide (g = h) = q := ⟨_, rfl⟩
      go_wp2
      refine wp_region_sg (by kernel_rfl) [0, 1, 2, 3, 4, 5, 6, 7, 8, 9, 10, 11] (by kernel_rfl) (by kernel_rfl) (by kernel_rfl) ?_
      refine SG.p (v := ?v1_6_0) rfl rfl rfl (fun W => ?h1_6_0) ?r1_6_0
      case h1_6_0 => (first|(go_simp;done)|(go_simp;with_reducible rfl))
      simp only [Act.put, pA, pB, pC]
      refine SG.l (v := ?v1_6_1) rfl rfl rfl ?h1_6_1 ?r1_6_1
      case h1_6_1 => (first|(go_simp;done)|(go_simp;with_reducible rfl))
      simp only [Act.put, pA, pB, pC]
      refine SG.p (v := ?v1_6_2) rfl rfl rfl (fun W => ?h1_6_2) ?r1_6_2
      case h1_6_2 => (first|(go_simp;done)|(go_simp;with_reducible rfl))
      simp only [Act.put, pA, pB, pC]
      refine SG.p (v := ?v1_6_3) rfl rfl rfl (fun W => ?h1_6_3) ?r1_6_3
      case h1_6_3 => (first|(go_simp;done)|(go_simp;with_reducible rfl))
      simp only [Act.put, pA, pB, pC]
      refine SG.l (v := ?v1_6_4) rfl rfl rfl ?h1_6_4 ?r1_6_4
      case h1_6_4 => (first|(go_simp;done)|(go_simp;with_reducible rfl))
      simp only [Act.put, pA, pB, pC]
      refine SG.p (v := ?v1_6_5) rfl rfl rfl (fun W => ?h1_6_5) ?r1_6_5
      case h1_6_5 => (first|(go_simp;done)|(go_simp;with_reducible rfl))
      simp only [Act.put, pA, pB, pC]
      refine SG.l (v := ?v1_6_6) rfl rfl rfl ?h1_6_6 ?r1_6_6
      case h1_6_6 => (first|(go_simp;done)|(go_simp;with_reducible rfl))
      simp only [Act.put, pA, pB, pC]
      refine SG.p (v := ?v1_6_7) rfl rfl rfl (fun W => ?h1_6_7) ?r1_6_7
      case h1_6_7 => (first|(go_simp;done)|(go_simp;with_reducible rfl))
      simp only [Act.put, pA, pB, pC]
      refine SG.p (v := ?v1_6_8) rfl rfl rfl (fun W => ?h1_6_8) ?r1_6_8
      case h1_6_8 => (first|(go_simp;done)|(go_simp;with_reducible rfl))
      simp only [Act.put, pA, pB, pC]
      refine SG.l (v := ?v1_6_9) rfl rfl rfl ?h1_6_9 ?r1_6_9
      case h1_6_9 => (first|(go_simp;done)|(go_simp;with_reducible rfl))
      simp only [Act.put, pA, pB, pC]
      refine SG.c rfl rfl rfl (by first|(go_simp;done)|(go_simp;with_reducible rfl)|(go_simp;exact ⟨⟨rfl, rfl⟩, rfl⟩)) ?_
      refine (rSameGate_any B0 B1 d0 d1 g h _ (HB.out.1.bI (by (repeat (first|exact bR _ _|assumption|apply bN|apply bA|apply bD)))) (HB.out.2.1.bI (by (repeat (first|exact bR _ _|assumption|apply bN|apply bA|apply bD))))).mono ?_
      rintro e w2 ⟨rfl, hb2⟩
      rw [hq]
      have hbr : Below wr.heap.size wr w2 := hbr0.trans hb2
      replace k2 := kc hbr k2
      replace m2 := kc hbr m2
      replace g0 := kc hbr g0
      replace g1 := kc hbr g1
      replace g2 := kc hbr g2
      replace g3 := kc hbr g3
      replace i0 := kc hbr i0
      replace i1 := kc hbr i1
      replace i2 := kc hbr i2
      replace i3 := kc hbr i3
      have HB2 := Lib.hid (And.intro (HB.out.2.2.trans (hbr.mono HB.out.2.2.size)) (And.intro (blkF hbr HP.out.1) (blkF hbr HP.out.2)))
      clear hb2 hbr hbr0
      refine ⟨_, rfl, ?_, ?_⟩
      · exact ⟨(nw (by kernel_rfl)), (fun _ => ⟨_, drop_at rfl, by (first|(go_simp;done)|(go_simp;with_reducible rfl))⟩), (nw (by kernel_rfl)), (fun _ => ⟨_, drop_at rfl, by (first|(go_simp;done)|(go_simp;with_reducible rfl))⟩), trivial⟩
      simp only [Act.put, pA, pB, pC]
      refine SG.p (v := ?v1_6_11) rfl rfl rfl (fun W => ?h1_6_11) ?r1_6_11
      case h1_6_11 => (first|(go_simp;done)|(go_simp;with_reducible rfl))
      simp only [Act.put, pA, pB, pC]
      simp only [SG]
      cases q
      · have HQ := Lib.hid hq
        clear hq
        go_wp2
        go_ret
        exact ⟨ret_bool (by
          rw [eq_comm, decide_eq_false_iff_not]
          intro e
          have h1 := HQ.out
          rw [decide_eq_false_iff_not, ← HG.out.1, ← HG.out.2] at h1
          exact h1 (by simp only [e])), HB2.out.1⟩
      · have HQ := Lib.hid hq
        clear hq
        go_wp2
        go_roundw
        case rel => exact ⟨j + 1, by omega, by go_num, Lib.hid (by
          have h1 := HQ.out
          rw [decide_eq_true_eq, ← HG.out.1, ← HG.out.2] at h1
          rw [List.take_succ_eq_append_getElem hlt, List.take_succ_eq_append_getElem hlt', HI.out, h1]), Lib.hid HB2.out.2, HB2.out.1⟩
        case measure => simp [intOf]; omega
    · go_wp2
      go_ret
      exact ⟨ret_bool (by
        have h5 := HI.out
        have h6 := HS.out
        rw [List.take_of_length_le (by omega), List.take_of_length_le (by omega)] at h5
        rw [eq_comm, decide_eq_true_eq]
        obtain ⟨x1, x2, x3⟩ := c
        obtain ⟨y1, y2, y3⟩ := d
        simp_all), hb⟩
end Go.Proofs.YtfommmijojfdbaaGreatDoor
