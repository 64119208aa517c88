/- Part 30 of the proof that 'spoondriftlaw19.RulesApplies' holds for every input; it has no condition beyond the statement's own. -/
import Derived.Test.YtfommmijojfdbaaGreatDoorZ27
import Derived.Test.YtfommmijojfdbaaGreatDoorZ22
import Derived.Test.YtfommmijojfdbaaGreatDoorZ17
import Derived.Test.YtfommmijojfdbaaGreatDoorZ03
import Derived.Test.YtfommmijojfdbaaGreatDoorZ08
set_option linter.all false
namespace Go.Proofs.YtfommmijojfdbaaGreatDoor
open Go.RowKit
set_option maxRecDepth 100000 in
set_option maxHeartbeats 4000000 in
theorem rPlain19_any (A : Option Addr) (k : Nat) (c : C) (w : World) (h : RdG w A c.gates) (hk : c.gates.length ≤ k) :
    Calls Tryz.prog 59 #[.agg #[.int .i64 c.wires, .int .i64 c.bits, .slice A c.gates.length k]] w fun e w' => e = .returned (.int .i64 (plainE c)) ∧ Below w.heap.size w w' := by
  have HH := Lib.hid h
  clear h
  go_enter Tryz.func59, Tryz.ntmps59
  go_upto_region 1 with fail
  obtain ⟨W1, hW1⟩ : ∃ W1, w.alloc (.cells #[.int .i64 c.wires, .int .i64 c.bits, .slice A c.gates.length k] 24) = W1 := ⟨_, rfl⟩
  have hb1 : Below w.heap.size w W1 := by rw [← hW1]; (repeat (first|exact bR _ _|assumption|apply bN|apply bA|apply bD))
  have p0 : W1.heap[w.heap.size]? = some (.cells #[.int .i64 c.wires, .int .i64 c.bits, .slice A c.gates.length k] 24 (0, 0)) := by rw [← hW1]; exact heap_alloc_new _ _
  obtain ⟨k0, k1, k2, kf⟩ := cells3 p0
  rw [hW1]
  clear hW1
  have hc := rCheck4_any A k c W1 (HH.out.bG hb1) hk
  obtain ⟨q, hq⟩ : ∃ q, check c = q := ⟨_, rfl⟩
  rw [hq] at hc
  go_wp2_with fail
  refine hc.mono ?_
  clear hc
  rintro e w2 ⟨rfl, hb2⟩
  replace p0 := blk2 hb2 p0
  clear k0 k1 k2 kf
  obtain ⟨k0, k1, k2, kf⟩ := cells3 p0
  replace hb1 := hb1.trans (hb2.mono hb1.size)
  clear hb2
  by_cases h0 : q = 0
  · subst h0
    have HQ := Lib.hid hq
    clear hq
    have hp := rPlain_any A k c w2 (HH.out.bG hb1) hk
    obtain ⟨p, hp2⟩ : ∃ p, c.gates.all plainG = p := ⟨_, rfl⟩
    rw [hp2] at hp
    go_wp2_with fail
    refine hp.mono ?_
    clear hp
    rintro e w3 ⟨rfl, hb3⟩
    have HB := Lib.hid (hb1.trans (hb3.mono hb1.size))
    have HP := Lib.hid hp2
    clear hb3 hb1 p0 hp2
    cases p
    · go_wp2
      go_ret
      exact ⟨ret_int (by unfold plainE; rw [if_pos HQ.out, if_neg (by rw [HP.out]; simp)]), HB.out⟩
    · go_wp2
      go_ret
      exact ⟨ret_int (by unfold plainE; rw [if_pos HQ.out, if_pos HP.out]), HB.out⟩
  · have hne : (q != 0) = true := by simpa using h0
    have HQ := Lib.hid (And.intro hq h0)
    have HB := Lib.hid hb1
    clear hq h0 hb1 p0
    go_wp2
    go_ret
    exact ⟨ret_int (by unfold plainE; rw [if_neg (by rw [HQ.out.1]; exact HQ.out.2), HQ.out.1]), HB.out⟩
theorem exch_len {c : C} {k : Nat} (h : exchOk c k = true) : k + 1 < c.gates.length := by
  unfold exchOk at h
  rcases Nat.lt_or_ge (k + 1) c.gates.length with h' | h'
  · exact h'
  · rw [List.getElem?_eq_none h'] at h
    split at h <;> simp_all
theorem exch_at {c : C} {k : Nat} (h1 : k < c.gates.length) (h2 : k + 1 < c.gates.length) : exchOk c k = commB c.gates[k] c.gates[k + 1] := by
  unfold exchOk
  rw [List.getElem?_eq_getElem h1, List.getElem?_eq_getElem h2]
set_option maxRecDepth 1000000 in
set_option maxHeartbeats 8000000 in
theorem rExch_any (A : Option Addr) (k : Nat) (c : C) (at_ : Nat) (w : World) (h : RdG w A c.gates) (hk : c.gates.length ≤ k) (hG : Good c) (hat : at_ ≤ c.gates.length) :
    Calls Tryz.prog 97 #[.agg #[.int .i64 c.wires, .int .i64 c.bits, .slice A c.gates.length k], .int .i64 at_] w (RetC (stepX c at_) w) := by
  have hlen := hG.len
  have HH := Lib.hid (And.intro h hG)
  clear h hG
  have hwr : IntKind.i64.wrap ((at_ : Int) + 1) = (at_ : Int) + 1 := IntWalk.i64_in _ (by omega)
  go_enter Tryz.func97, Tryz.ntmps97
  go_upto_region 1 with fail
  obtain ⟨W1, hW1⟩ : ∃ W1, (w.alloc (.cells #[.int .i64 c.wires, .int .i64 c.bits, .slice A c.gates.length k] 24)).alloc (.cells #[.int .i64 0, .int .i64 0, .slice none 0 0] 24) = W1 := ⟨_, rfl⟩
  have hb1 : Below w.heap.size w W1 := by rw [← hW1]; (repeat (first|exact bR _ _|assumption|apply bN|apply bA|apply bD))
  have hz1 : w.heap.size + 2 ≤ W1.heap.size := by rw [← hW1]; simp
  have p0 : W1.heap[w.heap.size]? = some (.cells #[.int .i64 c.wires, .int .i64 c.bits, .slice A c.gates.length k] 24 (0, 0)) := by rw [← hW1]; exact fst2 _ _ _
  have p1 : W1.heap[w.heap.size + 1]? = some (.cells #[.int .i64 0, .int .i64 0, .slice none 0 0] 24 (0, 0)) := by rw [← hW1]; exact snd2 _ _ _
  obtain ⟨k0, k1, k2, kf⟩ := cells3 p0
  obtain ⟨m0, m1, m2, mf⟩ := cells3 p1
  rw [hW1]
  clear hW1
  have hold := olds W1
  have hbl := blk_lt p1
  by_cases h1 : c.gates.length ≤ at_ + 1
  · have h1' : (c.gates.length : Int) ≤ (at_ : Int) + 1 := by omega
    have t1 : decide ((c.gates.length : Int) ≤ (at_ : Int) + 1) = true := by rw [decide_eq_true_eq]; exact h1'
    have HF := Lib.hid (show stepX c at_ = (6, zeroC, 0) by
      unfold stepX
      rw [if_neg]
      intro e
      have := exch_len e
      omega)
    have HP := Lib.hid (And.intro p1 hb1)
    clear p0 p1 hb1 h1
    go_wp2
    refine wp_region_sg (by kernel_rfl) [0, 1, 2, 3, 4, 5, 6, 7, 8, 9, 10, 11, 12, 13, 14, 15, 16, 17, 18, 19, 20] (by kernel_rfl) (by kernel_rfl) (by kernel_rfl) ?_
    refine SG.p (v := ?v2_1_0) rfl rfl rfl (fun W => ?h2_1_0) ?r2_1_0
    case h2_1_0 => (first|(go_simp;done)|(go_simp;with_reducible rfl))
    simp only [Act.put, pA, pB, pC]
    refine SG.p (v := ?v2_1_1) rfl rfl rfl (fun W => ?h2_1_1) ?r2_1_1
    case h2_1_1 => (first|(go_simp;done)|(go_simp;with_reducible rfl))
    simp only [Act.put, pA, pB, pC]
    refine SG.p (v := ?v2_1_2) rfl rfl rfl (fun W => ?h2_1_2) ?r2_1_2
    case h2_1_2 => (first|(go_simp;done)|(go_simp;with_reducible rfl))
    simp only [Act.put, pA, pB, pC]
    refine SG.l (v := ?v2_1_3) rfl rfl rfl ?h2_1_3 ?r2_1_3
    case h2_1_3 => (first|(go_simp;done)|(go_simp;with_reducible rfl))
    simp only [Act.put, pA, pB, pC]
    refine SG.p (v := ?v2_1_4) rfl rfl rfl (fun W => ?h2_1_4) ?r2_1_4
    case h2_1_4 => (first|(go_simp;done)|(go_simp;with_reducible rfl))
    simp only [Act.put, pA, pB, pC]
    refine SG.p (v := ?v2_1_5) rfl rfl rfl (fun W => ?h2_1_5) ?r2_1_5
    case h2_1_5 => (first|(go_simp;done)|(go_simp;with_reducible rfl))
    simp only [Act.put, pA, pB, pC]
    refine SG.p (v := ?v2_1_6) rfl rfl rfl (fun W => ?h2_1_6) ?r2_1_6
    case h2_1_6 => (first|(go_simp;done)|(go_simp;with_reducible rfl))
    simp only [Act.put, pA, pB, pC]
    refine SG.s rfl (by first|rfl|(simp [Region.wanted, yielded, *];done)) ?_
    simp only [Act.put, pA, pB, pC]
    refine SG.s rfl (by first|rfl|(simp [Region.wanted, yielded, *];done)) ?_
    simp only [Act.put, pA, pB, pC]
    refine SG.s rfl (by first|rfl|(simp [Region.wanted, yielded, *];done)) ?_
    simp only [Act.put, pA, pB, pC]
    refine SG.s rfl (by first|rfl|(simp [Region.wanted, yielded, *];done)) ?_
    simp only [Act.put, pA, pB, pC]
    refine SG.s rfl (by first|rfl|(simp [Region.wanted, yielded, *];done)) ?_
    simp only [Act.put, pA, pB, pC]
    refine SG.s rfl (by first|rfl|(simp [Region.wanted, yielded, *];done)) ?_
    simp only [Act.put, pA, pB, pC]
    refine SG.s rfl (by first|rfl|(simp [Region.wanted, yielded, *];done)) ?_
    simp only [Act.put, pA, pB, pC]
    refine SG.s rfl (by first|rfl|(simp [Region.wanted, yielded, *];done)) ?_
    simp only [Act.put, pA, pB, pC]
    refine SG.s rfl (by first|rfl|(simp [Region.wanted, yielded, *];done)) ?_
    simp only [Act.put, pA, pB, pC]
    refine SG.s rfl (by first|rfl|(simp [Region.wanted, yielded, *];done)) ?_
    simp only [Act.put, pA, pB, pC]
    refine SG.s rfl (by first|rfl|(simp [Region.wanted, yielded, *];done)) ?_
    simp only [Act.put, pA, pB, pC]
    refine SG.s rfl (by first|rfl|(simp [Region.wanted, yielded, *];done)) ?_
    simp only [Act.put, pA, pB, pC]
    refine SG.s rfl (by first|rfl|(simp [Region.wanted, yielded, *];done)) ?_
    simp only [Act.put, pA, pB, pC]
    refine SG.p (v := ?v2_1_20) rfl rfl rfl (fun W => ?h2_1_20) ?r2_1_20
    case h2_1_20 => (first|(go_simp;done)|(go_simp;with_reducible rfl))
    simp only [Act.put, pA, pB, pC]
    simp only [SG]
    go_wp2
    rw [HF.out]
    exact bodyPost_ret (results_list (rs := [.cell 4 24, .tmp 5, .tmp 6]) rfl (by simp) (.cell (w.heap.size + 1) 24 _ _ _ rfl (set3 (w := W1.drew) HP.out.1) Tryz.underlying24 rfl (by kernel_rfl) (.tmp (.tmp .nil)))) rfl
      ⟨_, rfl, own_nil _ _ _ _, ((HP.out.2.drew.setCell (by first|(simp;done)|(simp;omega)|omega) _).setCell (by first|(simp;done)|(simp;omega)|omega) _).setCell (by first|(simp;done)|(simp;omega)|omega) _⟩
  have h1' : ¬ (c.gates.length : Int) ≤ (at_ : Int) + 1 := by omega
  have t1 : decide ((c.gates.length : Int) ≤ (at_ : Int) + 1) = false := by rw [decide_eq_false_iff_not]; exact h1'
  have hl0 : at_ < c.gates.length := by omega
  have hl1 : at_ + 1 < c.gates.length := by omega
  obtain ⟨b, o, B0, d0, hA, g0, g1, g2, g3, hd0, hr0⟩ := (HH.out.1.bG hb1).gate at_ hl0
  obtain ⟨b', o', B1, d1, hA', i0, i1, i2, i3, hd1, hr1⟩ := (HH.out.1.bG hb1).gate (at_ + 1) hl1
  subst hA
  cases hA'
  have HX := Lib.hid (exch_at hl0 hl1)
  have hgood := (good_iff.1 HH.out.2)
  have HG0 := Lib.hid (hgood.2.2 _ (List.getElem_mem hl0))
  have HG1 := Lib.hid (hgood.2.2 _ (List.getElem_mem hl1))
  have hw12 := hgood.1.2.1
  obtain ⟨g, hg⟩ : ∃ g, c.gates[at_] = g := ⟨_, rfl⟩
  obtain ⟨g', hg'⟩ : ∃ g, c.gates[at_ + 1] = g := ⟨_, rfl⟩
  rw [hg] at g0 g1 g2 g3 hd0 hr0 HX HG0
  rw [hg'] at i0 i1 i2 i3 hd1 hr1 HX HG1
  have HR := Lib.hid (And.intro hr0 hr1)
  clear hg hg' hr0 hr1 hgood h1
  obtain ⟨q, hq⟩ : ∃ q, commB g g' = q := ⟨_, rfl⟩
  rw [hq] at HX
  have hnat : ((at_ : Int) + 1).toNat = at_ + 1 := by omega
  have hpos : (0 : Int) ≤ (at_ : Int) + 1 := by omega
  have hlt1 : (at_ : Int) + 1 < (c.gates.length : Int) := by omega
  go_wp2
  refine wp_region_sg (by kernel_rfl) [0, 1, 2, 3, 4, 5, 6, 7, 8, 9, 10, 11, 12, 13, 14, 15, 16, 17, 18, 19, 20] (by kernel_rfl) (by kernel_rfl) (by kernel_rfl) ?_
  refine SG.p (v := ?v3_1_0) rfl rfl rfl (fun W => ?h3_1_0) ?r3_1_0
  case h3_1_0 => (first|(go_simp;done)|(go_simp;with_reducible rfl))
  simp only [Act.put, pA, pB, pC]
  refine SG.p (v := ?v3_1_1) rfl rfl rfl (fun W => ?h3_1_1) ?r3_1_1
  case h3_1_1 => (first|(go_simp;done)|(go_simp;with_reducible rfl))
  simp only [Act.put, pA, pB, pC]
  refine SG.p (v := ?v3_1_2) rfl rfl rfl (fun W => ?h3_1_2) ?r3_1_2
  case h3_1_2 => (first|(go_simp;done)|(go_simp;with_reducible rfl))
  simp only [Act.put, pA, pB, pC]
  refine SG.l (v := ?v3_1_3) rfl rfl rfl ?h3_1_3 ?r3_1_3
  case h3_1_3 => (first|(go_simp;done)|(go_simp;with_reducible rfl))
  simp only [Act.put, pA, pB, pC]
  refine SG.p (v := ?v3_1_4) rfl rfl rfl (fun W => ?h3_1_4) ?r3_1_4
  case h3_1_4 => (first|(go_simp;done)|(go_simp;with_reducible rfl))
  simp only [Act.put, pA, pB, pC]
  refine SG.p (v := ?v3_1_5) rfl rfl rfl (fun W => ?h3_1_5) ?r3_1_5
  case h3_1_5 => (first|(go_simp;done)|(go_simp;with_reducible rfl))
  simp only [Act.put, pA, pB, pC]
  refine SG.p (v := ?v3_1_6) rfl rfl rfl (fun W => ?h3_1_6) ?r3_1_6
  case h3_1_6 => (first|(go_simp;done)|(go_simp;with_reducible rfl))
  simp only [Act.put, pA, pB, pC]
  refine SG.p (v := ?v3_1_7) rfl rfl (by first|rfl|(simp [Region.wanted, yielded, *];done)) (fun W => ?h3_1_7) ?r3_1_7
  case h3_1_7 => (first|(go_simp;done)|(go_simp;with_reducible rfl))
  simp only [Act.put, pA, pB, pC]
  refine SG.l (v := ?v3_1_8) rfl rfl (by first|rfl|(simp [Region.wanted, yielded, *];done)) ?h3_1_8 ?r3_1_8
  case h3_1_8 => (first|(go_simp;done)|(go_simp;with_reducible rfl))
  simp only [Act.put, pA, pB, pC]
  refine SG.p (v := ?v3_1_9) rfl rfl (by first|rfl|(simp [Region.wanted, yielded, *];done)) (fun W => ?h3_1_9) ?r3_1_9
  case h3_1_9 => (first|(go_simp;done)|(go_simp;with_reducible rfl))
  simp only [Act.put, pA, pB, pC]
  refine SG.p (v := ?v3_1_10) rfl rfl (by first|rfl|(simp [Region.wanted, yielded, *];done)) (fun W => ?h3_1_10) ?r3_1_10
  case h3_1_10 => (first|(go_simp;done)|(go_simp;with_reducible rfl))
  simp only [Act.put, pA, pB, pC]
  refine SG.l (v := ?v3_1_11) rfl rfl (by first|rfl|(simp [Region.wanted, yielded, *];done)) ?h3_1_11 ?r3_1_11
  case h3_1_11 => (first|(go_simp;done)|(go_simp;with_reducible rfl))
  simp only [Act.put, pA, pB, pC]
  refine SG.p (v := ?v3_1_12) rfl rfl (by first|rfl|(simp [Region.wanted, yielded, *];done)) (fun W => ?h3_1_12) ?r3_1_12
  case h3_1_12 => (first|(go_simp;done)|(go_simp;with_reducible rfl))
  simp only [Act.put, pA, pB, pC]
  refine SG.l (v := ?v3_1_13) rfl rfl (by first|rfl|(simp [Region.wanted, yielded, *];done)) ?h3_1_13 ?r3_1_13
  case h3_1_13 => (first|(go_simp;done)|(go_simp;with_reducible rfl))
  simp only [Act.put, pA, pB, pC]
  refine SG.p (v := ?v3_1_14) rfl rfl (by first|rfl|(simp [Region.wanted, yielded, *];done)) (fun W => ?h3_1_14) ?r3_1_14
  case h3_1_14 => (first|(go_simp;done)|(go_simp;with_reducible rfl))
  simp only [Act.put, pA, pB, pC]
  refine SG.p (v := ?v3_1_15) rfl rfl (by first|rfl|(simp [Region.wanted, yielded, *];done)) (fun W => ?h3_1_15) ?r3_1_15
  case h3_1_15 => (first|(go_simp;done)|(go_simp;with_reducible rfl))
  simp only [Act.put, pA, pB, pC]
  refine SG.p (v := ?v3_1_16) rfl rfl (by first|rfl|(simp [Region.wanted, yielded, *];done)) (fun W => ?h3_1_16) ?r3_1_16
  case h3_1_16 => (first|(go_simp;done)|(go_simp;with_reducible rfl))
  simp only [Act.put, pA, pB, pC]
  refine SG.l (v := ?v3_1_17) rfl rfl (by first|rfl|(simp [Region.wanted, yielded, *];done)) ?h3_1_17 ?r3_1_17
  case h3_1_17 => (first|(go_simp;done)|(go_simp;with_reducible rfl))
  simp only [Act.put, pA, pB, pC]
  refine SG.c rfl rfl (by first|rfl|(simp [Region.wanted, yielded, *];done)) (by first|(go_simp;done)|(go_simp;with_reducible rfl)|(go_simp;exact ⟨⟨rfl, rfl⟩, rfl⟩)) ?_
  refine (rCommute_any B0 B1 d0 d1 c.wires g g' _ (HR.out.1.bI (by (repeat (first|exact bR _ _|assumption|apply bN|apply bA|apply bD)))) (HR.out.2.bI (by (repeat (first|exact bR _ _|assumption|apply bN|apply bA|apply bD)))) hw12 HG0.out HG1.out).mono ?_
  rintro e w2 ⟨rfl, hb2⟩
  rw [hq]
  have hbr : Below W1.heap.size W1 w2 := Below.trans (b := W1.drew) (by (repeat (first|exact bR _ _|assumption|apply bN|apply bA|apply bD))) hb2
  replace p0 := blk2 hbr p0
  replace p1 := blk2 hbr p1
  clear k0 k1 k2 kf m0 m1 m2 mf
  obtain ⟨k0, k1, k2, kf⟩ := cells3 p0
  obtain ⟨m0, m1, m2, mf⟩ := cells3 p1
  replace g0 := kc hbr g0
  replace g1 := kc hbr g1
  replace g2 := kc hbr g2
  replace g3 := kc hbr g3
  replace i0 := kc hbr i0
  replace i1 := kc hbr i1
  replace i2 := kc hbr i2
  replace i3 := kc hbr i3
  replace hb1 := hb1.trans (hbr.mono hb1.size)
  replace hz1 := Nat.le_trans hz1 hbr.size
  clear hb2 hbr hold hbl
  refine ⟨_, rfl, ?_, ?_⟩
  · exact ⟨(nw (by kernel_rfl)), (fun _ => ⟨_, drop_at rfl, by (first|(go_simp;done)|(go_simp;with_reducible rfl))⟩), (nw (by kernel_rfl)), (fun _ => ⟨_, drop_at rfl, by (first|(go_simp;done)|(go_simp;with_reducible rfl))⟩), (fun _ => ⟨_, drop_at rfl, by (first|(go_simp;done)|(go_simp;with_reducible rfl))⟩), trivial⟩
  simp only [Act.put, pA, pB, pC]
  refine SG.p (v := ?v3_1_19) rfl rfl (by first|rfl|(simp [Region.wanted, yielded, *];done)) (fun W => ?h3_1_19) ?r3_1_19
  case h3_1_19 => (first|(go_simp;done)|(go_simp;with_reducible rfl))
  simp only [Act.put, pA, pB, pC]
  refine SG.p (v := ?v3_1_20) rfl rfl rfl (fun W => ?h3_1_20) ?r3_1_20
  case h3_1_20 => (first|(go_simp;done)|(go_simp;with_reducible rfl))
  simp only [Act.put, pA, pB, pC]
  simp only [SG]
  cases q
  · have HF := Lib.hid (show stepX c at_ = (6, zeroC, 0) by unfold stepX; rw [if_neg (by rw [HX.out]; simp)])
    have HP := Lib.hid (And.intro p1 hb1)
    clear p0 p1 hb1 g0 g1 g2 g3 i0 i1 i2 i3
    go_wp2
    rw [HF.out]
    exact bodyPost_ret (results_list (rs := [.cell 4 24, .tmp 5, .tmp 6]) rfl (by simp) (.cell (w.heap.size + 1) 24 _ _ _ rfl (set3 HP.out.1) Tryz.underlying24 rfl (by kernel_rfl) (.tmp (.tmp .nil)))) rfl
      ⟨_, rfl, own_nil _ _ _ _, ((HP.out.2.setCell (by first|(simp;done)|(simp;omega)|omega) _).setCell (by first|(simp;done)|(simp;omega)|omega) _).setCell (by first|(simp;done)|(simp;omega)|omega) _⟩
  have HF := Lib.hid (show stepX c at_ = (0, ⟨c.wires, c.bits, swapG c.gates at_⟩, 0) by unfold stepX; rw [if_pos HX.out])
  clear g0 g1 g2 g3 i0 i1 i2 i3
  go_upto_region 3 with fail
  go_cut [7] (fun p wx => ∃ b A3 c3, p = .pointer (some ⟨b, 0, none⟩) ∧ Hid (wx.heap[b]? = some (.cells #[.int .i64 c.wires, .int .i64 c.bits, .slice A3 c.gates.length c3] 24 (0, 0)) ∧ w.heap.size + 2 ≤ b ∧ Own 3 55 (w.heap.size + 2) wx (.slice A3 c.gates.length c3) c.gates ∧ Below w2.heap.size w2 wx))
  case first =>
    have hz2 := hz1
    have hold := olds w2
    have hlp0 := blk_lt p0
    have hlp1 := blk_lt p1
    refine wp_region_st (by kernel_rfl) (.op 0 (.op 1 (.op 2 (.op 3 (.op 4 (.op 5 (.alt true 6 (.op 7 (.alt true 8 (.alt true 9 .fin .stop) .stop)) (.alt false 8 (.alt true 6 (.op 7 (.alt true 9 .fin .stop)) .stop) .stop)))))))) (by kernel_rfl) (by kernel_rfl) (by kernel_rfl) ?_
    refine ST.p (v := ?v1_3_0_1) rfl rfl rfl (fun W => ?h1_3_0_1) ?r1_3_0_1
    case h1_3_0_1 => (first|(go_simp;done)|(go_simp;with_reducible rfl)|(go_simp;constructor<;>with_reducible rfl))
    simp only [Act.put, pA, pB, pC]
    refine ST.l (v := ?v1_3_1_2) rfl rfl rfl ?h1_3_1_2 ?r1_3_1_2
    case h1_3_1_2 => (first|(go_simp;done)|(go_simp;with_reducible rfl)|(go_simp;constructor<;>with_reducible rfl))
    simp only [Act.put, pA, pB, pC]
    refine ST.p (v := ?v1_3_2_3) rfl rfl rfl (fun W => ?h1_3_2_3) ?r1_3_2_3
    case h1_3_2_3 => (first|(go_simp;done)|(go_simp;with_reducible rfl)|(go_simp;constructor<;>with_reducible rfl))
    simp only [Act.put, pA, pB, pC]
    refine ST.l (v := ?v1_3_3_4) rfl rfl rfl ?h1_3_3_4 ?r1_3_3_4
    case h1_3_3_4 => (first|(go_simp;done)|(go_simp;with_reducible rfl)|(go_simp;constructor<;>with_reducible rfl))
    simp only [Act.put, pA, pB, pC]
    refine ST.p (v := ?v1_3_4_5) rfl rfl rfl (fun W => ?h1_3_4_5) ?r1_3_4_5
    case h1_3_4_5 => (first|(go_simp;done)|(go_simp;with_reducible rfl)|(go_simp;constructor<;>with_reducible rfl))
    simp only [Act.put, pA, pB, pC]
    refine ST.l (v := ?v1_3_5_6) rfl rfl rfl ?h1_3_5_6 ?r1_3_5_6
    case h1_3_5_6 => (first|(go_simp;done)|(go_simp;with_reducible rfl)|(go_simp;constructor<;>with_reducible rfl))
    simp only [Act.put, pA, pB, pC]
    refine ST.c rfl rfl (by first|(go_simp;done)|(go_simp;with_reducible rfl)|(go_simp;exact ⟨⟨rfl, rfl⟩, rfl⟩)) ?c1_3_6_13 ?x1_3_6_13
    case c1_3_6_13 =>
     refine (rOwn_any _ c.gates.length k c.gates _ (HH.out.1.bG (hb1.trans ((show Below w2.heap.size w2 _ by (repeat (first|exact bR _ _|assumption|apply bN|apply bA|apply bD))).mono hb1.size))) rfl HH.out.2.wires (by omega)).mono ?_
     rintro e w3 ⟨v3, rfl, ho3, hb3⟩
     have hb13 : Below w2.heap.size w2 w3 := Below.trans (show Below w2.heap.size w2 _ by (repeat (first|exact bR _ _|assumption|apply bN|apply bA|apply bD))) (hb3.mono (by first|(simp;done)|(simp;omega)|omega))
     obtain ⟨A3, c3, rfl, hc3⟩ := ho3.form'
     have e0 := kc hb13 k0
     have e1 := kc hb13 k1
     have e2 := kc hb13 k2
     have hlt3 := cell_lt e0
     have hold := olds w3
     have hn1 : (w3.heap.size = w.heap.size) = False := by simp; omega
     have hn2 : (w.heap.size = w3.heap.size) = False := by simp; omega
     have HQ := Lib.hid (And.intro ho3 hb13)
     clear ho3
     refine ⟨_, rfl, ?_, ?_⟩
     · exact ⟨(nw (by kernel_rfl)), (fun _ => ⟨_, drop_at rfl, by (first|(go_simp;done)|(go_simp;with_reducible rfl))⟩), (fun _ => ⟨_, drop_at rfl, by (first|(go_simp;done)|(go_simp;with_reducible rfl))⟩), trivial⟩
     simp only [Act.put, pA, pB, pC]
     refine ST.p (v := ?v1_3_7_7) rfl rfl rfl (fun W => ?h1_3_7_7) ?r1_3_7_7
     case h1_3_7_7 => (first|(go_simp;done)|(go_simp;with_reducible rfl)|(go_simp;constructor<;>with_reducible rfl))
     simp only [Act.put, pA, pB, pC]
     refine ST.v (v := ?v1_3_8_9) (w' := ?w1_3_8_9) rfl rfl ?h1_3_8_9 ?s1_3_8_9 ?r1_3_8_9 ?x1_3_8_9
     case h1_3_8_9 => (first|(go_simp;done)|(go_simp;with_reducible rfl)|(go_simp;constructor<;>with_reducible rfl))
     case s1_3_8_9 => exact ⟨(fun _ => ⟨_, drop_at rfl, by (first|(go_simp;done)|(go_simp;with_reducible rfl))⟩), (fun _ => ⟨_, drop_at rfl, by (first|(go_simp;done)|(go_simp;with_reducible rfl))⟩), (fun _ => ⟨_, drop_at rfl, by (first|(go_simp;done)|(go_simp;with_reducible rfl))⟩), trivial⟩
     case x1_3_8_9 => exact ST.stop
     simp only [Act.put, pA, pB, pC]
     refine ST.k (w' := ?w1_3_9_8) rfl rfl ?h1_3_9_8 ?s1_3_9_8 ?r1_3_9_8 ?x1_3_9_8
     case h1_3_9_8 => (first|(go_simp;done)|(go_simp;with_reducible rfl)|(go_simp;constructor<;>with_reducible rfl))
     case s1_3_9_8 => exact ⟨(nw (by kernel_rfl)), (nw (by kernel_rfl)), (nw (by kernel_rfl)), trivial⟩
     case x1_3_9_8 => exact ST.stop
     simp only [Act.put, pA, pB, pC]
     simp only [ST]
     go_wp2
     go_meet
     have hsz := hb13.size
     exact ⟨_, A3, c3, rfl, Lib.hid ⟨blk_alloc _ _ _ rfl, by omega, (HQ.out.1.below (below_alloc (Below.refl _ _) _)).weak (by simp; omega), by (repeat (first|exact bR _ _|assumption|apply bN|apply bA|apply bD))⟩⟩
    case' x1_3_6_13 => skip
    refine ST.v (v := ?v1_3_8_14) (w' := ?w1_3_8_14) rfl rfl ?h1_3_8_14 ?s1_3_8_14 ?r1_3_8_14 ?x1_3_8_14
    case h1_3_8_14 => (first|(go_simp;done)|(go_simp;with_reducible rfl)|(go_simp;constructor<;>with_reducible rfl))
    case s1_3_8_14 => exact ⟨(fun _ => ⟨_, drop_at rfl, by (first|(go_simp;done)|(go_simp;with_reducible rfl))⟩), (fun _ => ⟨_, drop_at rfl, by (first|(go_simp;done)|(go_simp;with_reducible rfl))⟩), (fun _ => ⟨_, drop_at rfl, by (first|(go_simp;done)|(go_simp;with_reducible rfl))⟩), trivial⟩
    case r1_3_8_14 =>
     simp only [Act.put, pA, pB, pC]
     refine ST.c rfl rfl (by first|(go_simp;done)|(go_simp;with_reducible rfl)|(go_simp;exact ⟨⟨rfl, rfl⟩, rfl⟩)) ?c1_3_6_12 ?x1_3_6_12
     case x1_3_6_12 => exact ST.stop
     refine (rOwn_any _ c.gates.length k c.gates _ (HH.out.1.bG (hb1.trans ((show Below w2.heap.size w2 _ by (repeat (first|exact bR _ _|assumption|apply bN|apply bA|apply bD))).mono hb1.size))) rfl HH.out.2.wires (by omega)).mono ?_
     rintro e w3 ⟨v3, rfl, ho3, hb3⟩
     have hb13 : Below w2.heap.size w2 w3 := Below.trans (show Below w2.heap.size w2 _ by (repeat (first|exact bR _ _|assumption|apply bN|apply bA|apply bD))) (hb3.mono (by first|(simp;done)|(simp;omega)|omega))
     obtain ⟨A3, c3, rfl, hc3⟩ := ho3.form'
     have e0 := kc hb13 k0
     have e1 := kc hb13 k1
     have e2 := kc hb13 k2
     have q : w3.heap[w2.heap.size]? = some (.cells #[.int .i64 0, .int .i64 0, .slice none 0 0] 24) := blk2 hb3 (blk_alloc _ _ _ (by simp))
     obtain ⟨f0, f1, f2, ff⟩ := cells3 q
     have hlt3 := cell_lt e0
     have hold := olds w3
     have hn1 : (w3.heap.size = w.heap.size) = False := by simp; omega
     have hn2 : (w.heap.size = w3.heap.size) = False := by simp; omega
     have HQ := Lib.hid (And.intro q (And.intro ho3 hb13))
     clear q
     clear ho3
     refine ⟨_, rfl, ?_, ?_⟩
     · exact ⟨(nw (by kernel_rfl)), (fun _ => ⟨_, drop_at rfl, by (first|(go_simp;done)|(go_simp;with_reducible rfl))⟩), (fun _ => ⟨_, drop_at rfl, by (first|(go_simp;done)|(go_simp;with_reducible rfl))⟩), trivial⟩
     simp only [Act.put, pA, pB, pC]
     refine ST.p (v := ?v1_3_7_10) rfl rfl rfl (fun W => ?h1_3_7_10) ?r1_3_7_10
     case h1_3_7_10 => (first|(go_simp;done)|(go_simp;with_reducible rfl)|(go_simp;constructor<;>with_reducible rfl))
     simp only [Act.put, pA, pB, pC]
     refine ST.k (w' := ?w1_3_9_11) rfl rfl ?h1_3_9_11 ?s1_3_9_11 ?r1_3_9_11 ?x1_3_9_11
     case h1_3_9_11 => (first|(go_simp;done)|(go_simp;with_reducible rfl)|(go_simp;constructor<;>with_reducible rfl))
     case s1_3_9_11 => exact ⟨(nw (by kernel_rfl)), (nw (by kernel_rfl)), (nw (by kernel_rfl)), trivial⟩
     case x1_3_9_11 => exact ST.stop
     simp only [Act.put, pA, pB, pC]
     simp only [ST]
     go_wp2
     go_meet
     have hsz := hb13.size
     exact ⟨_, A3, c3, rfl, Lib.hid ⟨set3 HQ.out.1, by omega, (HQ.out.2.1.setT3 HQ.out.1 (by decide) (by decide)).weak (by simp; omega), ((hb13.setCell (by simp) _).setCell (by simp) _).setCell (by simp) _⟩⟩
    case x1_3_8_14 => exact ST.stop
  case rest =>
  obtain ⟨b2, A3, c3, rfl, HC⟩ := hcut
  obtain ⟨e1, hbb2, ⟨ps, hps, hd, ho⟩, e4⟩ := HC.out
  have hpl : ps.length = c.gates.length := by have := congrArg List.length hps; simpa using this
  obtain ⟨p, hp⟩ : ∃ p, ps[at_]? = some p := ⟨_, List.getElem?_eq_getElem (by omega)⟩
  obtain ⟨q, hq⟩ : ∃ q, ps[at_ + 1]? = some q := ⟨_, List.getElem?_eq_getElem (by omega)⟩
  rw [← hpl] at ho
  obtain ⟨b3, hA3, s0, s1, s2, s3, gin⟩ := ho.gateAt (g := p.1) (v := p.2) hp
  cases hA3
  obtain ⟨b3', hb3', t0, t1, t2, t3, kin⟩ := ho.gateAt (g := q.1) (v := q.2) hq
  cases hb3'
  obtain ⟨Ap, cp, hpv, _⟩ := gin.form
  obtain ⟨Aq, cq, hqv, _⟩ := kin.form
  have hbb : w.heap.size + 2 ≤ b3 := by
    obtain ⟨cs, ho', _⟩ := ho
    exact own_base ho' b3 rfl
  have hne : b3 ≠ b2 := fun e => by
    subst e
    obtain ⟨cs, ho', _⟩ := ho
    obtain ⟨cs', hcs⟩ := owns_cells ho' (k := b3) rfl
    rw [e1] at hcs
    injection hcs with hcs
    injection hcs with _ h
    exact absurd h (by decide)
  have hfz : ∀ j, wc.frozen? ⟨b3, j, none⟩ = false := fun j => by
    obtain ⟨cs, ho', _⟩ := ho
    exact ho'.frozenAt j
  have HO := Lib.hid (And.intro ho (And.intro hps (And.intro hd (And.intro hp (And.intro hq (And.intro gin (And.intro kin hpl)))))))
  obtain ⟨pg, pv⟩ := p
  obtain ⟨qg, qv⟩ := q
  dsimp only at s0 s1 s2 s3 t0 t1 t2 t3 hpv hqv
  have HV := Lib.hid (And.intro hpv hqv)
  rw [hpv] at s1
  rw [hqv] at t1
  replace p0 := blk2 e4 p0
  replace p1 := blk2 e4 p1
  have HP := Lib.hid (And.intro p1 (And.intro e1 (hb1.trans (e4.mono hb1.size))))
  clear k0 k1 k2 kf m0 m1 m2 mf
  obtain ⟨r0, r1, r2, rf⟩ := cells3 e1
  obtain ⟨m0, m1, m2, mf⟩ := cells3 p1
  have hlp1 := blk_lt p1
  have hlb2 := blk_lt e1
  have hlb3 := cell_lt s0
  clear ho hps hd hp hq gin kin hpl hpv hqv e1 e4 p0 p1 hb1 HC
  have hn1 : (b3 = b2) = False := by simp; omega
  have hn2 : (b2 = b3) = False := by simp; omega
  have hn3 : (b3 = w.heap.size + 1) = False := by simp; omega
  have hn4 : (w.heap.size + 1 = b3) = False := by simp; omega
  have hn5 : (b2 = w.heap.size + 1) = False := by simp; omega
  have hn6 : (w.heap.size + 1 = b2) = False := by simp; omega
  have hold := olds wc
  go_wp2
  refine wp_region_sg (by kernel_rfl) [0, 1, 2, 3, 4, 5, 6, 7, 8, 9, 10, 11, 12, 13, 14, 15, 16, 17, 18, 19, 20, 21] (by kernel_rfl) (by kernel_rfl) (by kernel_rfl) ?_
  refine SG.p (v := ?v4_4_0) rfl rfl rfl (fun W => ?h4_4_0) ?r4_4_0
  case h4_4_0 => (first|(go_simp;done)|(go_simp;with_reducible rfl))
  simp only [Act.put, pA, pB, pC]
  refine SG.l (v := ?v4_4_1) rfl rfl rfl ?h4_4_1 ?r4_4_1
  case h4_4_1 => (first|(go_simp;done)|(go_simp;with_reducible rfl))
  simp only [Act.put, pA, pB, pC]
  refine SG.p (v := ?v4_4_2) rfl rfl rfl (fun W => ?h4_4_2) ?r4_4_2
  case h4_4_2 => (first|(go_simp;done)|(go_simp;with_reducible rfl))
  simp only [Act.put, pA, pB, pC]
  refine SG.p (v := ?v4_4_3) rfl rfl rfl (fun W => ?h4_4_3) ?r4_4_3
  case h4_4_3 => (first|(go_simp;done)|(go_simp;with_reducible rfl))
  simp only [Act.put, pA, pB, pC]
  refine SG.l (v := ?v4_4_4) rfl rfl rfl ?h4_4_4 ?r4_4_4
  case h4_4_4 => (first|(go_simp;done)|(go_simp;with_reducible rfl))
  simp only [Act.put, pA, pB, pC]
  refine SG.p (v := ?v4_4_5) rfl rfl rfl (fun W => ?h4_4_5) ?r4_4_5
  case h4_4_5 => (first|(go_simp;done)|(go_simp;with_reducible rfl))
  simp only [Act.put, pA, pB, pC]
  refine SG.p (v := ?v4_4_6) rfl rfl rfl (fun W => ?h4_4_6) ?r4_4_6
  case h4_4_6 => (first|(go_simp;done)|(go_simp;with_reducible rfl))
  simp only [Act.put, pA, pB, pC]
  refine SG.p (v := ?v4_4_7) rfl rfl rfl (fun W => ?h4_4_7) ?r4_4_7
  case h4_4_7 => (first|(go_simp;done)|(go_simp;with_reducible rfl))
  simp only [Act.put, pA, pB, pC]
  refine SG.l (v := ?v4_4_8) rfl rfl rfl ?h4_4_8 ?r4_4_8
  case h4_4_8 => (first|(go_simp;done)|(go_simp;with_reducible rfl))
  simp only [Act.put, pA, pB, pC]
  refine SG.p (v := ?v4_4_9) rfl rfl rfl (fun W => ?h4_4_9) ?r4_4_9
  case h4_4_9 => (first|(go_simp;done)|(go_simp;with_reducible rfl))
  simp only [Act.put, pA, pB, pC]
  refine SG.p (v := ?v4_4_10) rfl rfl rfl (fun W => ?h4_4_10) ?r4_4_10
  case h4_4_10 => (first|(go_simp;done)|(go_simp;with_reducible rfl))
  simp only [Act.put, pA, pB, pC]
  refine SG.p (v := ?v4_4_11) rfl rfl rfl (fun W => ?h4_4_11) ?r4_4_11
  case h4_4_11 => (first|(go_simp;done)|(go_simp;with_reducible rfl))
  simp only [Act.put, pA, pB, pC]
  refine SG.l (v := ?v4_4_12) rfl rfl rfl ?h4_4_12 ?r4_4_12
  case h4_4_12 => (first|(go_simp;done)|(go_simp;with_reducible rfl))
  simp only [Act.put, pA, pB, pC]
  refine SG.p (v := ?v4_4_13) rfl rfl rfl (fun W => ?h4_4_13) ?r4_4_13
  case h4_4_13 => (first|(go_simp;done)|(go_simp;with_reducible rfl))
  simp only [Act.put, pA, pB, pC]
  refine SG.l (v := ?v4_4_14) rfl rfl rfl ?h4_4_14 ?r4_4_14
  case h4_4_14 => (first|(go_simp;done)|(go_simp;with_reducible rfl))
  simp only [Act.put, pA, pB, pC]
  refine SG.p (v := ?v4_4_15) rfl rfl rfl (fun W => ?h4_4_15) ?r4_4_15
  case h4_4_15 => (first|(go_simp;done)|(go_simp;with_reducible rfl))
  simp only [Act.put, pA, pB, pC]
  refine SG.p (v := ?v4_4_16) rfl rfl rfl (fun W => ?h4_4_16) ?r4_4_16
  case h4_4_16 => (first|(go_simp;done)|(go_simp;with_reducible rfl))
  simp only [Act.put, pA, pB, pC]
  refine SG.l (v := ?v4_4_17) rfl rfl rfl ?h4_4_17 ?r4_4_17
  case h4_4_17 => (first|(go_simp;done)|(go_simp;with_reducible rfl))
  simp only [Act.put, pA, pB, pC]
  refine SG.p (v := ?v4_4_18) rfl rfl rfl (fun W => ?h4_4_18) ?r4_4_18
  case h4_4_18 => (first|(go_simp;done)|(go_simp;with_reducible rfl))
  simp only [Act.put, pA, pB, pC]
  refine SG.k (w' := ?w4_4_19) rfl rfl rfl ?h4_4_19 ?s4_4_19 ?r4_4_19
  case h4_4_19 => (first|(go_simp;done)|(go_simp;with_reducible rfl))
  case s4_4_19 => exact ⟨(nw (by kernel_rfl)), (fun _ => ⟨_, drop_at rfl, by (first|(go_simp;done)|(go_simp;with_reducible rfl))⟩), (nw (by kernel_rfl)), (nw (by kernel_rfl)), (fun _ => ⟨_, drop_at rfl, by (first|(go_simp;done)|(go_simp;with_reducible rfl))⟩), (nw (by kernel_rfl)), trivial⟩
  simp only [Act.put, pA, pB, pC]
  refine SG.p (v := ?v4_4_20) rfl rfl rfl (fun W => ?h4_4_20) ?r4_4_20
  case h4_4_20 => (first|(go_simp;done)|(go_simp;with_reducible rfl))
  simp only [Act.put, pA, pB, pC]
  refine SG.k (w' := ?w4_4_21) rfl rfl rfl ?h4_4_21 ?s4_4_21 ?r4_4_21
  case h4_4_21 => (first|(go_simp;done)|(go_simp;with_reducible rfl))
  case s4_4_21 => exact ⟨(nw (by kernel_rfl)), (nw (by kernel_rfl)), (nw (by kernel_rfl)), (nw (by kernel_rfl)), (nw (by kernel_rfl)), (nw (by kernel_rfl)), trivial⟩
  simp only [Act.put, pA, pB, pC]
  simp only [SG]
  go_wp2
  obtain ⟨ho, hps, hd, hp, hq, gin, kin, hpl⟩ := HO.out
  obtain ⟨rfl, rfl⟩ := HV.out
  obtain ⟨j1, j2, j3⟩ := map_swap hps hp hq
  have hsw : swapG c.gates at_ = (c.gates.set at_ qg).set (at_ + 1) pg := by unfold swapG; rw [j2, j3]
  rw [HF.out]
  rw [hpl] at ho
  have hs1 := App.swap (by decide) ho hpl hp hq gin kin
  have hOwn : Own 3 55 (w.heap.size + 2) _ _ (swapG c.gates at_) := ⟨_, by rw [hsw]; exact j1, hd.swap hp hq, hs1⟩
  have nb : ∀ {b : Nat}, b ≠ w.heap.size + 1 → ∀ (W : World) (j : Nat) (u : Value), (W.setCell ⟨b, j, none⟩ u).heap[w.heap.size + 1]? = W.heap[w.heap.size + 1]? := fun h W j u => heap_setCell_other _ _ _ _ (fun e => h e.symm)
  have n3 : b3 ≠ w.heap.size + 1 := by omega
  refine bodyPost_ret (results_list (rs := [.cell 4 24, .tmp 5, .tmp 6]) rfl (by simp) (.cell (w.heap.size + 1) 24 _ _ _ rfl (by rw [drew_heap]; refine set3 (x0 := .int .i64 0) (x1 := .int .i64 0) (x2 := .slice none 0 0) (T := 24) ?_; rw [nb n3, nb n3, nb n3, nb n3, nb n3, nb n3, nb n3, nb n3]; exact HP.out.1) Tryz.underlying24 rfl (by kernel_rfl) (.tmp (.tmp .nil)))) rfl ⟨_, rfl, ?_, ?_⟩
  · exact ((((hOwn.setCell (by simp) _).setCell (by simp) _).setCell (by simp) _).drew).weak (by omega)
  · refine Below.drew ?_
    have s : ∀ {W : World}, Below w.heap.size w W → ∀ (b j : Nat) (u : Value), w.heap.size ≤ b → Below w.heap.size w (W.setCell ⟨b, j, none⟩ u) := fun h b j u hb => h.setCell (p := ⟨b, j, none⟩) hb u
    have hb3w : w.heap.size ≤ b3 := by omega
    exact s (s (s (s (s (s (s (s (s (s (s HP.out.2.2 _ _ _ hb3w) _ _ _ hb3w) _ _ _ hb3w) _ _ _ hb3w) _ _ _ hb3w) _ _ _ hb3w) _ _ _ hb3w) _ _ _ hb3w) _ _ _ (by omega)) _ _ _ (by omega)) _ _ _ (by omega)
def gt (k : Int) (ws : List Int) : G := ⟨k, ws, 0, 0⟩
def exC : C := ⟨2, 0, [gt 4 [1], gt 9 [0, 1], gt 4 [1], gt 10 [0, 1]]⟩
def exL : List M := [⟨33, 0, false, [0, 1]⟩, ⟨9, 0, false, [0, 1]⟩]
def exX : C := ⟨1, 0, [gt 1 [0], gt 7 [0], gt 1 [0]]⟩
def exY : C := ⟨1, 0, [gt 8 [0]]⟩
def exT : C := ⟨2, 0, [gt 7 [0], gt 1 [1], gt 7 [0]]⟩
def exA : C := ⟨1, 0, [gt 1 [0], gt 3 [0]]⟩
def exB : C := ⟨1, 0, [gt 3 [0], gt 1 [0]]⟩
set_option maxRecDepth 1000000
theorem ex_follow : FollowR exC exL = (0, ⟨2, 0, []⟩, 0) := by decide +kernel
theorem ex_apply : ApplyR exX ⟨26, 0, false, [0]⟩ = (0, exY, 1) := by decide +kernel
theorem ex_back : ApplyR exY ⟨26, 0, true, [0]⟩ = (0, exX, 7) := by decide +kernel
theorem ex_check : CheckR exC exL ⟨2, 0, []⟩ = (0, 0) := by decide +kernel
theorem ex_invert : InvertR exC exL = (0, [⟨9, 0, true, [0, 1]⟩, ⟨33, 0, true, [0, 1]⟩]) := by decide +kernel
theorem ex_steps : StepsR exT 43 false = (0, [⟨43, 0, false, []⟩, ⟨43, 1, false, []⟩]) := by decide +kernel
theorem ex_shorten : ShortenR exC = (0, exL) := by decide +kernel
theorem ex_search : SearchR exA exB 2 = (0, [⟨0, 2, true, [0]⟩, ⟨23, 0, false, [0]⟩]) := by decide +kernel
end Go.Proofs.YtfommmijojfdbaaGreatDoor
