/- Part 23 of the proof that 'spoondriftlaw19.RulesApplies' holds for every input; it has no condition beyond the statement's own. -/
import Derived.Test.YtfommmijojfdbaaGreatDoorZ19
import Derived.Test.YtfommmijojfdbaaGreatDoorZ13
set_option linter.all false
namespace Go.Proofs.YtfommmijojfdbaaGreatDoor
open Go.RowKit
set_option maxRecDepth 100000 in
set_option maxHeartbeats 8000000 in
theorem rCommute_any (A B : Option Addr) (c d : Nat) (n : Int) (g h : G) (w : World) (hr : RdI w A g.wires) (hr' : RdI w B h.wires) (hn : n ≤ 12) (hg : goodG n g) (hh : goodG n h) :
    Calls Tryz.prog 134 #[.agg #[.int .i64 g.kind, .slice A g.wires.length c, .int .i64 g.bit, .int .i64 g.cif], .agg #[.int .i64 h.kind, .slice B h.wires.length d, .int .i64 h.bit, .int .i64 h.cif]] w fun e w' => e = .returned (.bool (commB g h)) ∧ Below w.heap.size w w' := by
  rw [comm_eq hn hg hh]
  have hl := hr.1
  have hl' := hr'.1
  have HH := Lib.hid (And.intro hr hr')
  have hgk : 1 ≤ g.kind ∧ g.kind ≤ 12 := ⟨hg.1, hg.2.1⟩
  have hhk : 1 ≤ h.kind ∧ h.kind ≤ 12 := ⟨hh.1, hh.2.1⟩
  have hg13 : g.kind ≠ 13 := by omega
  have hh13 : h.kind ≠ 13 := by omega
  have hgl : 1 ≤ g.wires.length := by have := hg.2.2.1; have := arity_pos hgk; omega
  have hhl : 1 ≤ h.wires.length := by have := hh.2.2.1; have := arity_pos hhk; omega
  have HA2 := Lib.hid (show rswaps g h = true → 2 ≤ g.wires.length by
    intro hs
    have := hg.2.2.1
    unfold rswaps at hs
    rw [decide_eq_true_eq] at hs
    unfold arity at this
    (repeat' split at this) <;> omega)
  clear hr hr' hg hh
  go_enter Tryz.func134, Tryz.ntmps134
  go_upto_region 1 with fail
  obtain ⟨W1, hW1⟩ : ∃ W1, (w.alloc (.cells #[.int .i64 g.kind, .slice A g.wires.length c, .int .i64 g.bit, .int .i64 g.cif] 55)).alloc (.cells #[.int .i64 h.kind, .slice B h.wires.length d, .int .i64 h.bit, .int .i64 h.cif] 55) = W1 := ⟨_, rfl⟩
  have hb1 : Below w.heap.size w W1 := by rw [← hW1]; (repeat (first|exact bR _ _|assumption|apply bN|apply bA|apply bD))
  have p0 : W1.heap[w.heap.size]? = some (.cells #[.int .i64 g.kind, .slice A g.wires.length c, .int .i64 g.bit, .int .i64 g.cif] 55 (0, 0)) := by rw [← hW1]; exact fst2 _ _ _
  have p1 : W1.heap[w.heap.size + 1]? = some (.cells #[.int .i64 h.kind, .slice B h.wires.length d, .int .i64 h.bit, .int .i64 h.cif] 55 (0, 0)) := by rw [← hW1]; exact snd2 _ _ _
  obtain ⟨k0, k1, k2, k3, kf⟩ := cells4 p0
  obtain ⟨m0, m1, m2, m3, mf⟩ := cells4 p1
  rw [hW1]
  clear hW1
  obtain ⟨q, hq⟩ : ∃ q, meets g.wires h.wires = q := ⟨_, rfl⟩
  have hme := rMeet_any A B c d g h W1 (HH.out.1.bI hb1) (HH.out.2.bI hb1) hg13 hh13
  rw [hq] at hme
  go_wp2_with fail
  refine hme.mono ?_
  clear hme
  rintro e w2 ⟨rfl, hb2⟩
  replace hb1 := hb1.trans (hb2.mono hb1.size)
  replace p0 := blk2 hb2 p0
  replace p1 := blk2 hb2 p1
  clear k0 k1 k2 k3 kf m0 m1 m2 m3 mf
  obtain ⟨k0, k1, k2, k3, kf⟩ := cells4 p0
  obtain ⟨m0, m1, m2, m3, mf⟩ := cells4 p1
  clear hb2 W1
  cases q
  · have HB := Lib.hid hb1
    clear hb1 p0 p1
    go_wp2
    go_ret
    exact ⟨ret_bool (by unfold rcomm; rw [if_pos hq]), HB.out⟩
  have HQ := Lib.hid hq
  clear hq
  have hto := rTouches_any A B c d g h w2 hg13 hh13
  go_wp2_with fail
  refine hto.mono ?_
  clear hto
  rintro e w3 ⟨rfl, hb3⟩
  replace hb1 := hb1.trans (hb3.mono hb1.size)
  replace p0 := blk2 hb3 p0
  replace p1 := blk2 hb3 p1
  clear k0 k1 k2 k3 kf m0 m1 m2 m3 mf
  obtain ⟨k0, k1, k2, k3, kf⟩ := cells4 p0
  obtain ⟨m0, m1, m2, m3, mf⟩ := cells4 p1
  clear hb3 w2
  go_upto_region 5 with fail
  go_cut [36] (fun x wx => x = .bool (rswaps g h) ∧ wx = w3)
  case first =>
    have HB := Lib.hid (And.intro hb1 (And.intro p0 p1))
    clear hb1 p0 p1
    by_cases e1 : g.kind = 11
    · have t1 : (g.kind == 11) = true := by simpa using e1
      by_cases e2 : h.kind = 10
      · have t2 : (h.kind == 10) = true := by simpa using e2
        have hs : rswaps g h = true := by unfold rswaps; rw [decide_eq_true_eq]; omega
        clear e1 e2
        go_wp2
        go_meet
        exact ⟨by rw [hs], rfl⟩
      · have t2 : (h.kind == 10) = false := by simpa using e2
        by_cases e3 : h.kind = 11
        · have t3 : (h.kind == 11) = true := by simpa using e3
          have hs : rswaps g h = true := by unfold rswaps; rw [decide_eq_true_eq]; omega
          clear e1 e2 e3
          go_wp2
          go_meet
          exact ⟨by rw [hs], rfl⟩
        · have t3 : (h.kind == 11) = false := by simpa using e3
          have hs : rswaps g h = false := by unfold rswaps; rw [decide_eq_false_iff_not]; omega
          clear e1 e2 e3
          go_wp2
          go_meet
          exact ⟨by rw [hs], rfl⟩
    · have t1 : (g.kind == 11) = false := by simpa using e1
      by_cases e2 : h.kind = 11
      · have t2 : (h.kind == 11) = true := by simpa using e2
        by_cases e3 : g.kind = 10
        · have t3 : (g.kind == 10) = true := by simpa using e3
          have hs : rswaps g h = true := by unfold rswaps; rw [decide_eq_true_eq]; omega
          clear e1 e2 e3
          go_wp2
          go_meet
          exact ⟨by rw [hs], rfl⟩
        · have t3 : (g.kind == 10) = false := by simpa using e3
          have hs : rswaps g h = false := by unfold rswaps; rw [decide_eq_false_iff_not]; omega
          clear e1 e2 e3
          go_wp2
          go_meet
          exact ⟨by rw [hs], rfl⟩
      · have t2 : (h.kind == 11) = false := by simpa using e2
        have hs : rswaps g h = false := by unfold rswaps; rw [decide_eq_false_iff_not]; omega
        clear e1 e2
        go_wp2
        go_meet
        exact ⟨by rw [hs], rfl⟩
  case rest =>
  obtain ⟨rfl, rfl⟩ := hcut
  obtain ⟨q, hq⟩ : ∃ q, rswaps g h = q := ⟨_, rfl⟩
  rw [hq] at HA2 ⊢
  cases q
  case true =>
    have hal := rAlike_any A B c d g h wc (HH.out.1.bI hb1) (HH.out.2.bI hb1) (HA2.out rfl)
    have HS := Lib.hid hq
    clear hq
    go_wp2_with fail
    refine hal.mono ?_
    clear hal
    rintro e w4 ⟨rfl, hb4⟩
    have HB := Lib.hid (hb1.trans (hb4.mono hb1.size))
    clear hb1 hb4
    go_wp2
    go_ret
    exact ⟨ret_bool (by unfold rcomm; rw [if_neg (by rw [HQ.out]; simp), if_pos HS.out]), HB.out⟩
  case false =>
    have HS := Lib.hid (show rcomm g h = !(g.wires.any (rbad g h)) by unfold rcomm; rw [if_neg (by rw [HQ.out]; simp), if_neg (by rw [hq]; simp)])
    clear hq HQ HA2
    go_wp2
    have HW := Lib.hid (And.intro p0 (And.intro p1 hb1))
    clear k0 k1 k2 k3 kf m0 m1 m2 m3 mf p0 p1 hb1
    go_loopw [5, 6] (fun i _ wr => ∃ j : Nat, j ≤ g.wires.length ∧ i = .int .i64 j ∧ Hid ((g.wires.take j).any (rbad g h) = false) ∧ Hid (wr.heap[w.heap.size]? = some (.cells #[.int .i64 g.kind, .slice A g.wires.length c, .int .i64 g.bit, .int .i64 g.cif] 55 (0, 0)) ∧ wr.heap[w.heap.size + 1]? = some (.cells #[.int .i64 h.kind, .slice B h.wires.length d, .int .i64 h.bit, .int .i64 h.cif] 55 (0, 0)) ∧ Below w.heap.size w wr)) (fun i _ _ => g.wires.length - (intOf i).toNat)
    case atStart => exact ⟨0, Nat.zero_le _, rfl, Lib.hid (by simp), HW⟩
    case round =>
      clear HW
      obtain ⟨j, hj, rfl, HI, HP⟩ := hrel
      have p0 := HP.out.1
      have p1 := HP.out.2.1
      obtain ⟨k0, k1, k2, k3, kf⟩ := cells4 p0
      obtain ⟨m0, m1, m2, m3, mf⟩ := cells4 p1
      by_cases hlt : j < g.wires.length
      · obtain ⟨b, o, rfl, hx⟩ := (HH.out.1.bI HP.out.2.2).int j hlt
        obtain ⟨y, hy⟩ : ∃ y, g.wires[j] = y := ⟨_, rfl⟩
        have HG := Lib.hid (show (g.wires.take (j + 1)).any (rbad g h) = rbad g h y by rw [List.take_succ_eq_append_getElem hlt, List.any_append, HI.out, hy]; simp)
        have HE := Lib.hid (show rbad g h y = true → g.wires.any (rbad g h) = true by intro e; rw [List.any_eq_true]; exact ⟨_, List.getElem_mem hlt, by rw [hy]; exact e⟩)
        rw [hy] at hx
        have HB := Lib.hid (And.intro (HH.out.1.bI HP.out.2.2) (And.intro (HH.out.2.bI HP.out.2.2) HP.out.2.2))
        clear hy
        obtain ⟨p, hp⟩ : ∃ p, decide (y ∈ h.wires) = p := ⟨_, rfl⟩
        have HY := Lib.hid hp
        clear hp
        obtain ⟨a1, ha1⟩ : ∃ p, raxis g y = p := ⟨_, rfl⟩
        have HA := Lib.hid ha1
        clear ha1
        obtain ⟨a2, ha2⟩ : ∃ p, raxis h y = p := ⟨_, rfl⟩
        have HA2 := Lib.hid ha2
        clear ha2
        go_wp2
        clear hx
        cases p
        · skip
          refine wp_region_sg (by kernel_rfl) [0, 1, 2, 3, 4, 5, 6, 7, 8, 9, 10, 11, 13, 14, 12, 15, 16, 17, 18] (by kernel_rfl) (by kernel_rfl) (by kernel_rfl) ?_
          refine SG.p (v := ?v1_11_0) rfl rfl rfl (fun W => ?h1_11_0) ?r1_11_0
          case h1_11_0 => (first|(go_simp;done)|(go_simp;with_reducible rfl))
          simp only [Act.put, pA, pB, pC]
          refine SG.l (v := ?v1_11_1) rfl rfl rfl ?h1_11_1 ?r1_11_1
          case h1_11_1 => (first|(go_simp;done)|(go_simp;with_reducible rfl))
          simp only [Act.put, pA, pB, pC]
          refine SG.p (v := ?v1_11_2) rfl rfl rfl (fun W => ?h1_11_2) ?r1_11_2
          case h1_11_2 => (first|(go_simp;done)|(go_simp;with_reducible rfl))
          simp only [Act.put, pA, pB, pC]
          refine SG.c rfl rfl rfl (by first|(go_simp;done)|(go_simp;with_reducible rfl)|(go_simp;exact ⟨⟨rfl, rfl⟩, rfl⟩)) ?_
          refine (rHas_is B h.wires.length d h.wires y _ (HB.out.2.1.bI (by (repeat (first|exact bR _ _|assumption|apply bN|apply bA|apply bD)))) rfl false HY.out).mono ?_
          rintro e w2 ⟨rfl, rfl⟩
          refine ⟨_, rfl, ?_, ?_⟩
          · exact ⟨(nw (by kernel_rfl)), trivial⟩
          simp only [Act.put, pA, pB, pC]
          refine SG.p (v := ?v1_11_4) rfl rfl rfl (fun W => ?h1_11_4) ?r1_11_4
          case h1_11_4 => (first|(go_simp;done)|(go_simp;with_reducible rfl))
          simp only [Act.put, pA, pB, pC]
          refine SG.s rfl (by first|rfl|(simp [Region.wanted, yielded, *];done)) ?_
          simp only [Act.put, pA, pB, pC]
          refine SG.s rfl (by first|rfl|(simp [Region.wanted, yielded, *];done)) ?_
          simp only [Act.put, pA, pB, pC]
          refine SG.s rfl (by first|rfl|(simp [Region.wanted, yielded, *];done)) ?_
          simp only [Act.put, pA, pB, pC]
          refine SG.s rfl (by first|rfl|(simp [Region.wanted, yielded, *];done)) ?_
          simp only [Act.put, pA, pB, pC]
          refine SG.s rfl (by first|rfl|(simp [Region.wanted, yielded, *];done)) ?_
          simp only [Act.put, pA, pB, pC]
          refine SG.s rfl (by first|rfl|(simp [Region.wanted, yielded, *];done)) ?_
          simp only [Act.put, pA, pB, pC]
          refine SG.s rfl (by first|rfl|(simp [Region.wanted, yielded, *];done)) ?_
          simp only [Act.put, pA, pB, pC]
          refine SG.s rfl (by first|rfl|(simp [Region.wanted, yielded, *];done)) ?_
          simp only [Act.put, pA, pB, pC]
          refine SG.s rfl (by first|rfl|(simp [Region.wanted, yielded, *];done)) ?_
          simp only [Act.put, pA, pB, pC]
          refine SG.s rfl (by first|rfl|(simp [Region.wanted, yielded, *];done)) ?_
          simp only [Act.put, pA, pB, pC]
          refine SG.s rfl (by first|rfl|(simp [Region.wanted, yielded, *];done)) ?_
          simp only [Act.put, pA, pB, pC]
          refine SG.s rfl (by first|rfl|(simp [Region.wanted, yielded, *];done)) ?_
          simp only [Act.put, pA, pB, pC]
          refine SG.s rfl (by first|rfl|(simp [Region.wanted, yielded, *];done)) ?_
          simp only [Act.put, pA, pB, pC]
          refine SG.p (v := ?v1_11_18) rfl rfl rfl (fun W => ?h1_11_18) ?r1_11_18
          case h1_11_18 => (first|(go_simp;done)|(go_simp;with_reducible rfl))
          simp only [Act.put, pA, pB, pC]
          simp only [SG]
          go_wp2
          go_roundw
          case rel => exact ⟨j + 1, by omega, by go_num, Lib.hid (by rw [HG.out]; unfold rbad; rw [HY.out]; rfl), Lib.hid ⟨blk2 (by (repeat (first|exact bR _ _|assumption|apply bN|apply bA|apply bD))) HP.out.1, blk2 (by (repeat (first|exact bR _ _|assumption|apply bN|apply bA|apply bD))) HP.out.2.1, HP.out.2.2.trans (by (repeat (first|exact bR _ _|assumption|apply bN|apply bA|apply bD)))⟩⟩
          case measure => simp [intOf]; omega
        · by_cases h0 : a1 = 0
          · subst h0
            skip
            refine wp_region_sg (by kernel_rfl) [0, 1, 2, 3, 4, 5, 6, 7, 8, 9, 10, 11, 13, 14, 12, 15, 16, 17, 18] (by kernel_rfl) (by kernel_rfl) (by kernel_rfl) ?_
            refine SG.p (v := ?v2_11_0) rfl rfl rfl (fun W => ?h2_11_0) ?r2_11_0
            case h2_11_0 => (first|(go_simp;done)|(go_simp;with_reducible rfl))
            simp only [Act.put, pA, pB, pC]
            refine SG.l (v := ?v2_11_1) rfl rfl rfl ?h2_11_1 ?r2_11_1
            case h2_11_1 => (first|(go_simp;done)|(go_simp;with_reducible rfl))
            simp only [Act.put, pA, pB, pC]
            refine SG.p (v := ?v2_11_2) rfl rfl rfl (fun W => ?h2_11_2) ?r2_11_2
            case h2_11_2 => (first|(go_simp;done)|(go_simp;with_reducible rfl))
            simp only [Act.put, pA, pB, pC]
            refine SG.c rfl rfl rfl (by first|(go_simp;done)|(go_simp;with_reducible rfl)|(go_simp;exact ⟨⟨rfl, rfl⟩, rfl⟩)) ?_
            refine (rHas_is B h.wires.length d h.wires y _ (HB.out.2.1.bI (by (repeat (first|exact bR _ _|assumption|apply bN|apply bA|apply bD)))) rfl true HY.out).mono ?_
            rintro e w2 ⟨rfl, rfl⟩
            refine ⟨_, rfl, ?_, ?_⟩
            · exact ⟨(nw (by kernel_rfl)), trivial⟩
            simp only [Act.put, pA, pB, pC]
            refine SG.p (v := ?v2_11_4) rfl rfl rfl (fun W => ?h2_11_4) ?r2_11_4
            case h2_11_4 => (first|(go_simp;done)|(go_simp;with_reducible rfl))
            simp only [Act.put, pA, pB, pC]
            refine SG.l (v := ?v2_11_5) rfl rfl (by first|rfl|(simp [Region.wanted, yielded, *];done)) ?h2_11_5 ?r2_11_5
            case h2_11_5 => (first|(go_simp;done)|(go_simp;with_reducible rfl))
            simp only [Act.put, pA, pB, pC]
            refine SG.p (v := ?v2_11_6) rfl rfl (by first|rfl|(simp [Region.wanted, yielded, *];done)) (fun W => ?h2_11_6) ?r2_11_6
            case h2_11_6 => (first|(go_simp;done)|(go_simp;with_reducible rfl))
            simp only [Act.put, pA, pB, pC]
            refine SG.c rfl rfl (by first|rfl|(simp [Region.wanted, yielded, *];done)) (by first|(go_simp;done)|(go_simp;with_reducible rfl)|(go_simp;exact ⟨⟨rfl, rfl⟩, rfl⟩)) ?_
            refine (rAxis_any _ c g y _ (HB.out.1.bI (by (repeat (first|exact bR _ _|assumption|apply bN|apply bA|apply bD)))) hgl hgk).mono ?_
            rintro e w4 ⟨rfl, hbw4⟩
            rw [show raxis g y = 0 from HA.out]
            have hbrw4 : Below wr.heap.size wr w4 := Below.trans (b := wr.drew) (by (repeat (first|exact bR _ _|assumption|apply bN|apply bA|apply bD))) (hbw4.mono (by first | exact Nat.le_refl _ | exact hbswr.drew))
            have hbsw4 : wr.heap.size ≤ w4.heap.size := hbrw4.size
            replace p0 := blk2 hbw4 p0
            replace p1 := blk2 hbw4 p1
            obtain ⟨k0, k1, k2, k3, kf⟩ := cells4 p0
            obtain ⟨m0, m1, m2, m3, mf⟩ := cells4 p1
            clear hbw4
            refine ⟨_, rfl, ?_, ?_⟩
            · exact ⟨(nw (by kernel_rfl)), (fun _ => ⟨_, drop_at rfl, by (first|(go_simp;done)|(go_simp;with_reducible rfl))⟩), trivial⟩
            simp only [Act.put, pA, pB, pC]
            refine SG.p (v := ?v2_11_8) rfl rfl (by first|rfl|(simp [Region.wanted, yielded, *];done)) (fun W => ?h2_11_8) ?r2_11_8
            case h2_11_8 => (first|(go_simp;done)|(go_simp;with_reducible rfl))
            simp only [Act.put, pA, pB, pC]
            refine SG.p (v := ?v2_11_9) rfl rfl (by first|rfl|(simp [Region.wanted, yielded, *];done)) (fun W => ?h2_11_9) ?r2_11_9
            case h2_11_9 => (first|(go_simp;done)|(go_simp;with_reducible rfl))
            simp only [Act.put, pA, pB, pC]
            refine SG.s rfl (by first|rfl|(simp [Region.wanted, yielded, *];done)) ?_
            simp only [Act.put, pA, pB, pC]
            refine SG.s rfl (by first|rfl|(simp [Region.wanted, yielded, *];done)) ?_
            simp only [Act.put, pA, pB, pC]
            refine SG.s rfl (by first|rfl|(simp [Region.wanted, yielded, *];done)) ?_
            simp only [Act.put, pA, pB, pC]
            refine SG.s rfl (by first|rfl|(simp [Region.wanted, yielded, *];done)) ?_
            simp only [Act.put, pA, pB, pC]
            refine SG.s rfl (by first|rfl|(simp [Region.wanted, yielded, *];done)) ?_
            simp only [Act.put, pA, pB, pC]
            refine SG.s rfl (by first|rfl|(simp [Region.wanted, yielded, *];done)) ?_
            simp only [Act.put, pA, pB, pC]
            refine SG.s rfl (by first|rfl|(simp [Region.wanted, yielded, *];done)) ?_
            simp only [Act.put, pA, pB, pC]
            refine SG.p (v := ?v2_11_17) rfl rfl (by first|rfl|(simp [Region.wanted, yielded, *];done)) (fun W => ?h2_11_17) ?r2_11_17
            case h2_11_17 => (first|(go_simp;done)|(go_simp;with_reducible rfl))
            simp only [Act.put, pA, pB, pC]
            refine SG.p (v := ?v2_11_18) rfl rfl rfl (fun W => ?h2_11_18) ?r2_11_18
            case h2_11_18 => (first|(go_simp;done)|(go_simp;with_reducible rfl))
            simp only [Act.put, pA, pB, pC]
            simp only [SG]
            have HF := Lib.hid (HB.out.2.2.trans (hbrw4.mono HB.out.2.2.size))
            clear p0 p1 hbrw4
            go_wp2
            go_ret
            exact ⟨ret_bool (by rw [HS.out, HE.out (by unfold rbad; rw [HY.out, HA.out]; rfl)]; rfl), HF.out⟩
          · have t0 : (a1 == 0) = false := by simpa using h0
            obtain ⟨q, hq⟩ : ∃ q, (a1 != a2) = q := ⟨_, rfl⟩
            have HR := Lib.hid (show rbad g h y = q by
              unfold rbad
              rw [HY.out, HA.out, HA2.out, ← hq]
              rw [Bool.eq_iff_iff]
              simp [h0])
            clear h0
            skip
            refine wp_region_sg (by kernel_rfl) [0, 1, 2, 3, 4, 5, 6, 7, 8, 9, 10, 11, 13, 14, 12, 15, 16, 17, 18] (by kernel_rfl) (by kernel_rfl) (by kernel_rfl) ?_
            refine SG.p (v := ?v3_11_0) rfl rfl rfl (fun W => ?h3_11_0) ?r3_11_0
            case h3_11_0 => (first|(go_simp;done)|(go_simp;with_reducible rfl))
            simp only [Act.put, pA, pB, pC]
            refine SG.l (v := ?v3_11_1) rfl rfl rfl ?h3_11_1 ?r3_11_1
            case h3_11_1 => (first|(go_simp;done)|(go_simp;with_reducible rfl))
            simp only [Act.put, pA, pB, pC]
            refine SG.p (v := ?v3_11_2) rfl rfl rfl (fun W => ?h3_11_2) ?r3_11_2
            case h3_11_2 => (first|(go_simp;done)|(go_simp;with_reducible rfl))
            simp only [Act.put, pA, pB, pC]
            refine SG.c rfl rfl rfl (by first|(go_simp;done)|(go_simp;with_reducible rfl)|(go_simp;exact ⟨⟨rfl, rfl⟩, rfl⟩)) ?_
            refine (rHas_is B h.wires.length d h.wires y _ (HB.out.2.1.bI (by (repeat (first|exact bR _ _|assumption|apply bN|apply bA|apply bD)))) rfl true HY.out).mono ?_
            rintro e w2 ⟨rfl, rfl⟩
            refine ⟨_, rfl, ?_, ?_⟩
            · exact ⟨(nw (by kernel_rfl)), trivial⟩
            simp only [Act.put, pA, pB, pC]
            refine SG.p (v := ?v3_11_4) rfl rfl rfl (fun W => ?h3_11_4) ?r3_11_4
            case h3_11_4 => (first|(go_simp;done)|(go_simp;with_reducible rfl))
            simp only [Act.put, pA, pB, pC]
            refine SG.l (v := ?v3_11_5) rfl rfl (by first|rfl|(simp [Region.wanted, yielded, *];done)) ?h3_11_5 ?r3_11_5
            case h3_11_5 => (first|(go_simp;done)|(go_simp;with_reducible rfl))
            simp only [Act.put, pA, pB, pC]
            refine SG.p (v := ?v3_11_6) rfl rfl (by first|rfl|(simp [Region.wanted, yielded, *];done)) (fun W => ?h3_11_6) ?r3_11_6
            case h3_11_6 => (first|(go_simp;done)|(go_simp;with_reducible rfl))
            simp only [Act.put, pA, pB, pC]
            refine SG.c rfl rfl (by first|rfl|(simp [Region.wanted, yielded, *];done)) (by first|(go_simp;done)|(go_simp;with_reducible rfl)|(go_simp;exact ⟨⟨rfl, rfl⟩, rfl⟩)) ?_
            refine (rAxis_any _ c g y _ (HB.out.1.bI (by (repeat (first|exact bR _ _|assumption|apply bN|apply bA|apply bD)))) hgl hgk).mono ?_
            rintro e w4 ⟨rfl, hbw4⟩
            rw [show raxis g y = a1 from HA.out]
            have hbrw4 : Below wr.heap.size wr w4 := Below.trans (b := wr.drew) (by (repeat (first|exact bR _ _|assumption|apply bN|apply bA|apply bD))) (hbw4.mono (by first | exact Nat.le_refl _ | exact hbswr.drew))
            have hbsw4 : wr.heap.size ≤ w4.heap.size := hbrw4.size
            replace p0 := blk2 hbw4 p0
            replace p1 := blk2 hbw4 p1
            obtain ⟨k0, k1, k2, k3, kf⟩ := cells4 p0
            obtain ⟨m0, m1, m2, m3, mf⟩ := cells4 p1
            clear hbw4
            refine ⟨_, rfl, ?_, ?_⟩
            · exact ⟨(nw (by kernel_rfl)), (fun _ => ⟨_, drop_at rfl, by (first|(go_simp;done)|(go_simp;with_reducible rfl))⟩), trivial⟩
            simp only [Act.put, pA, pB, pC]
            refine SG.p (v := ?v3_11_8) rfl rfl (by first|rfl|(simp [Region.wanted, yielded, *];done)) (fun W => ?h3_11_8) ?r3_11_8
            case h3_11_8 => (first|(go_simp;done)|(go_simp;with_reducible rfl))
            simp only [Act.put, pA, pB, pC]
            refine SG.p (v := ?v3_11_9) rfl rfl (by first|rfl|(simp [Region.wanted, yielded, *];done)) (fun W => ?h3_11_9) ?r3_11_9
            case h3_11_9 => (first|(go_simp;done)|(go_simp;with_reducible rfl))
            simp only [Act.put, pA, pB, pC]
            refine SG.l (v := ?v3_11_10) rfl rfl (by first|rfl|(simp [Region.wanted, yielded, *];done)) ?h3_11_10 ?r3_11_10
            case h3_11_10 => (first|(go_simp;done)|(go_simp;with_reducible rfl))
            simp only [Act.put, pA, pB, pC]
            refine SG.p (v := ?v3_11_11) rfl rfl (by first|rfl|(simp [Region.wanted, yielded, *];done)) (fun W => ?h3_11_11) ?r3_11_11
            case h3_11_11 => (first|(go_simp;done)|(go_simp;with_reducible rfl))
            simp only [Act.put, pA, pB, pC]
            refine SG.l (v := ?v3_11_13) rfl rfl (by first|rfl|(simp [Region.wanted, yielded, *];done)) ?h3_11_13 ?r3_11_13
            case h3_11_13 => (first|(go_simp;done)|(go_simp;with_reducible rfl))
            simp only [Act.put, pA, pB, pC]
            refine SG.p (v := ?v3_11_14) rfl rfl (by first|rfl|(simp [Region.wanted, yielded, *];done)) (fun W => ?h3_11_14) ?r3_11_14
            case h3_11_14 => (first|(go_simp;done)|(go_simp;with_reducible rfl))
            simp only [Act.put, pA, pB, pC]
            refine SG.c rfl rfl (by first|rfl|(simp [Region.wanted, yielded, *];done)) (by first|(go_simp;done)|(go_simp;with_reducible rfl)|(go_simp;exact ⟨⟨rfl, rfl⟩, rfl⟩)) ?_
            refine (rAxis_any _ c g y _ (HB.out.1.bI (by (repeat (first|exact bR _ _|assumption|apply bN|apply bA|apply bD)))) hgl hgk).mono ?_
            rintro e w5 ⟨rfl, hbw5⟩
            rw [show raxis g y = a1 from HA.out]
            have hbrw5 : Below wr.heap.size wr w5 := Below.trans (b := w4) (by (repeat (first|exact bR _ _|assumption|apply bN|apply bA|apply bD))) (hbw5.mono (by first | exact Nat.le_refl _ | exact hbsw4))
            have hbsw5 : wr.heap.size ≤ w5.heap.size := hbrw5.size
            replace p0 := blk2 hbw5 p0
            replace p1 := blk2 hbw5 p1
            obtain ⟨k0, k1, k2, k3, kf⟩ := cells4 p0
            obtain ⟨m0, m1, m2, m3, mf⟩ := cells4 p1
            clear hbw5
            refine ⟨_, rfl, ?_, ?_⟩
            · exact ⟨(fun _ => ⟨_, drop_at rfl, by (first|(go_simp;done)|(go_simp;with_reducible rfl))⟩), (nw (by kernel_rfl)), (fun _ => ⟨_, drop_at rfl, by (first|(go_simp;done)|(go_simp;with_reducible rfl))⟩), (fun _ => ⟨_, drop_at rfl, by (first|(go_simp;done)|(go_simp;with_reducible rfl))⟩), trivial⟩
            simp only [Act.put, pA, pB, pC]
            refine SG.c rfl rfl (by first|rfl|(simp [Region.wanted, yielded, *];done)) (by first|(go_simp;done)|(go_simp;with_reducible rfl)|(go_simp;exact ⟨⟨rfl, rfl⟩, rfl⟩)) ?_
            refine (rAxis_any B d h y _ (HB.out.2.1.bI (by (repeat (first|exact bR _ _|assumption|apply bN|apply bA|apply bD)))) hhl hhk).mono ?_
            rintro e w6 ⟨rfl, hbw6⟩
            rw [show raxis h y = a2 from HA2.out]
            have hbrw6 : Below wr.heap.size wr w6 := Below.trans (b := w5) (by (repeat (first|exact bR _ _|assumption|apply bN|apply bA|apply bD))) (hbw6.mono (by first | exact Nat.le_refl _ | exact hbsw5))
            have hbsw6 : wr.heap.size ≤ w6.heap.size := hbrw6.size
            replace p0 := blk2 hbw6 p0
            replace p1 := blk2 hbw6 p1
            obtain ⟨k0, k1, k2, k3, kf⟩ := cells4 p0
            obtain ⟨m0, m1, m2, m3, mf⟩ := cells4 p1
            clear hbw6
            refine ⟨_, rfl, ?_, ?_⟩
            · exact ⟨(nw (by kernel_rfl)), (fun _ => ⟨_, drop_at rfl, by (first|(go_simp;done)|(go_simp;with_reducible rfl))⟩), (fun _ => ⟨_, drop_at rfl, by (first|(go_simp;done)|(go_simp;with_reducible rfl))⟩), (fun _ => ⟨_, drop_at rfl, by (first|(go_simp;done)|(go_simp;with_reducible rfl))⟩), trivial⟩
            simp only [Act.put, pA, pB, pC]
            refine SG.p (v := ?v3_11_16) rfl rfl (by first|rfl|(simp [Region.wanted, yielded, *];done)) (fun W => ?h3_11_16) ?r3_11_16
            case h3_11_16 => (first|(go_simp;done)|(go_simp;with_reducible rfl))
            simp only [Act.put, pA, pB, pC]
            refine SG.p (v := ?v3_11_17) rfl rfl (by first|rfl|(simp [Region.wanted, yielded, *];done)) (fun W => ?h3_11_17) ?r3_11_17
            case h3_11_17 => (first|(go_simp;done)|(go_simp;with_reducible rfl))
            simp only [Act.put, pA, pB, pC]
            refine SG.p (v := ?v3_11_18) rfl rfl rfl (fun W => ?h3_11_18) ?r3_11_18
            case h3_11_18 => (first|(go_simp;done)|(go_simp;with_reducible rfl))
            simp only [Act.put, pA, pB, pC]
            simp only [SG]
            have HF := Lib.hid (And.intro p0 (And.intro p1 (HB.out.2.2.trans (hbrw6.mono HB.out.2.2.size))))
            clear p0 p1 hbrw4 hbrw5 hbrw6
            cases q
            · go_wp2
              go_roundw
              case rel => exact ⟨j + 1, by omega, by go_num, Lib.hid (by rw [HG.out, HR.out]), HF⟩
              case measure => simp [intOf]; omega
            · go_wp2
              go_ret
              exact ⟨ret_bool (by rw [HS.out, HE.out HR.out]; rfl), HF.out.2.2⟩
      · have HF := Lib.hid HP.out.2.2
        clear p0 p1
        go_wp2
        go_ret
        exact ⟨ret_bool (by rw [HS.out]; have := HI.out; rw [List.take_of_length_le (by omega)] at this; rw [this]; rfl), HF.out⟩
set_option maxRecDepth 1000000 in
set_option maxHeartbeats 8000000 in
theorem Apply_any (A B : Option Addr) (k d : Nat) (c : C) (s : M) (w : World) (HT : Hid (Laid w)) (h : RdG w A c.gates) (hk : c.gates.length ≤ k) (h' : RdI w B s.wires) :
    Calls Tryz.prog 19 #[.agg #[.int .i64 c.wires, .int .i64 c.bits, .slice A c.gates.length k], .agg #[.int .i64 s.rule, .int .i64 s.at_, .bool s.back, .slice B s.wires.length d]] w (RetC (ApplyR c s) w) := by
  have HH := Lib.hid (And.intro h h')
  clear h h'
  go_enter Tryz.func19, Tryz.ntmps19
  go_upto_region 1 with fail
  obtain ⟨W1, hW1⟩ : ∃ W1, ((w.alloc (.cells #[.int .i64 c.wires, .int .i64 c.bits, .slice A c.gates.length k] 24)).alloc (.cells #[.int .i64 s.rule, .int .i64 s.at_, .bool s.back, .slice B s.wires.length d] 27)).alloc (.cells #[.int .i64 0, .int .i64 0, .slice none 0 0] 24) = W1 := ⟨_, rfl⟩
  have hb01 : Below w.heap.size w W1 := by rw [← hW1]; (repeat (first|exact bR _ _|assumption|apply bN|apply bA|apply bD))
  have p0 : W1.heap[w.heap.size]? = some (.cells #[.int .i64 c.wires, .int .i64 c.bits, .slice A c.gates.length k] 24) := by rw [← hW1]; exact alloc_old (alloc_old (blk_alloc _ _ _ rfl))
  have p1 : W1.heap[w.heap.size + 1]? = some (.cells #[.int .i64 s.rule, .int .i64 s.at_, .bool s.back, .slice B s.wires.length d] 27) := by rw [← hW1]; exact alloc_old (blk_alloc _ _ _ (by simp))
  have p2 : W1.heap[w.heap.size + 1 + 1]? = some (.cells #[.int .i64 0, .int .i64 0, .slice none 0 0] 24) := by rw [← hW1]; exact blk_alloc _ _ _ (by simp)
  rw [hW1]
  clear hW1
  obtain ⟨a0, a1, a2, af⟩ := cells3 p0
  have hp := plain_any A k c W1 (HH.out.1.bG hb01)
  go_wp2_with fail
  refine hp.mono ?_
  clear hp
  rintro e w2 ⟨rfl, hb⟩
  have hb0 := hb01.trans (hb.mono hb01.size)
  clear hb01 a0 a1 a2 af
  replace p0 := blk2 hb p0
  replace p1 := blk2 hb p1
  replace p2 := blk2 hb p2
  obtain ⟨a0, a1, a2, af⟩ := cells3 p0
  obtain ⟨b0, b1, b2, b3, bf⟩ := cells4 p1
  obtain ⟨r0, r1, r2, rf⟩ := cells3 p2
  clear hb
  by_cases hG : plainE c = 0
  · have ha := apply_any A B k d c s w2 (Lib.hid (HT.out.below hb0)) (HH.out.1.bG hb0) hk (HH.out.2.bI hb0) (plainE_good.1 hG)
    obtain ⟨⟨er, cc, ph⟩, hx⟩ : ∃ x, applyR c s = x := ⟨_, rfl⟩
    have HXX := Lib.hid (show ApplyR c s = (er, cc, ph) by unfold ApplyR; rw [if_pos hG, hx])
    rw [hx] at ha
    rw [hG]
    clear hx hG
    dsimp only
    go_wp2_with fail
    refine ha.mono ?_
    clear ha
    rintro e w9 ⟨v, rfl, ho, hb⟩
    obtain ⟨A9, c9, rfl, _⟩ := ho.form'
    have hlt2 := blk_lt p2
    replace p2 := blk2 hb p2
    clear r0 r1 r2 rf
    obtain ⟨r0, r1, r2, rf⟩ := cells3 p2
    have HO := Lib.hid (And.intro p2 (And.intro (show Own 3 55 (w.heap.size + 1 + 1 + 1) w9 (.slice A9 cc.gates.length c9) cc.gates from ho.weak (by omega)) (hb0.trans (hb.mono hb0.size))))
    clear ho hb hb0 hlt2
    dsimp only
    go_wp2
    rw [HXX.out]
    refine bodyPost_ret (results_list (rs := [.cell 4 24, .tmp 5, .tmp 6]) rfl (by simp) (.cell (w.heap.size + 1 + 1) 24 _ _ _ rfl (set3 HO.out.1) Tryz.underlying24 rfl (by kernel_rfl) (.tmp (.tmp .nil)))) rfl
      ⟨.slice A9 cc.gates.length c9, rfl, ?_, ?_⟩
    · exact (((HO.out.2.1.setCell (by simp) _).setCell (by simp) _).setCell (by simp) _).weak (by omega)
    · exact ((HO.out.2.2.setCell (by simp; omega) _).setCell (by simp; omega) _).setCell (by simp; omega) _
  · have hne : (plainE c == 0) = false := by simpa using hG
    have hne2 : (plainE c != 0) = true := by simpa using hG
    have HP := Lib.hid (And.intro p2 hb0)
    have HXX := Lib.hid (show ApplyR c s = (plainE c, zeroC, 0) by unfold ApplyR; rw [if_neg hG])
    obtain ⟨q, hq⟩ : ∃ q, plainE c = q := ⟨_, rfl⟩
    rw [hq] at hne hne2 HXX ⊢
    clear hq hG
    go_wp2
    rw [HXX.out]
    exact bodyPost_ret (results_list (rs := [.cell 4 24, .tmp 5, .tmp 6]) rfl (by simp) (.cell (w.heap.size + 1 + 1) 24 _ _ _ rfl (set3 HP.out.1) Tryz.underlying24 rfl (by kernel_rfl) (.tmp (.tmp .nil)))) rfl
      ⟨_, rfl, own_nil _ _ _ _, ((HP.out.2.setCell (by simp; omega) _).setCell (by simp; omega) _).setCell (by simp; omega) _⟩
end Go.Proofs.YtfommmijojfdbaaGreatDoor
