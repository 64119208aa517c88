/- The law's awake: the examples of the chapter. (Written by mkAW.py.) -/
import Derived.Test.YtfommmijojfdbaaGreatDoorLF
import Derived.Test.YtfommmijojfdbaaGreatDoorZ40
import Derived.Test.YtfommmijojfdbaaGreatDoorZ34
set_option linter.all false
namespace Go.Proofs.YtfommmijojfdbaaGreatDoor
open Go.RowKit

set_option maxRecDepth 1000000 in
set_option maxHeartbeats 8000000 in
theorem awake_any (w : World) (HT : Hid (Laid w)) : Calls Tryz.prog 15 #[] w fun e w' => e = .returned (.bool true) ∧ Below w.heap.size w w' := by
  go_enter Tryz.func15, Tryz.ntmps15
  go_wp2_with fail
  refine (chain_any w).mono ?_
  rintro e W0 ⟨A, B, rfl, hg, hm, hb⟩
  have HF := Lib.hid (((AllF.nil W0).push (.bel w) hb).push (.g A exC.gates) hg |>.push (.m B exL) hm)
  clear hb hg hm
  have hold := olds W0
  go_wp2_with fail
  clear hold 
  generalize hV : World.alloc W0 _ = V1
  replace HF := Lib.hid (HF.out.al hV)
  clear hV
  have hc := Shorten_any A 4 exC V1 (Lib.hid (HT.out.below (HF.out.iB 3))) (HF.out.iG 2) (by decide)
  rw [ex_shorten] at hc
  refine hc.mono ?_
  clear hc
  rintro e W2 ⟨v, rfl, ho, hb⟩
  obtain ⟨A2, c2, rfl, _, hm⟩ := ho.rdM (by decide) (by decide)
  replace HF := Lib.hid ((HF.out.step hb).push (.m A2 exL) hm)
  clear ho hb hm
  obtain ⟨k00, k01, k02, k0f, lk0⟩ := HF.out.i3 1
  have hold := olds W2
  go_wp2_with fail
  clear hold k00 k01 k02 k0f lk0
  have hc := Follow_any A B 4 2 exC exL W2 (Lib.hid (HT.out.below (HF.out.iB 4))) (HF.out.iG 3) (by decide) (HF.out.iM 2)
  rw [ex_follow] at hc
  refine hc.mono ?_
  clear hc
  rintro e W3 ⟨v, rfl, ho, hb⟩
  dsimp only at ho ⊢
  obtain ⟨A3, c3, rfl, _⟩ := ho.form'
  simp only [List.length_nil]
  replace HF := Lib.hid (HF.out.step hb)
  clear ho hb
  have hold := olds W3
  go_wp2_with fail
  clear hold 
  generalize hV : World.alloc (World.alloc W3 _) _ = V4
  replace HF := Lib.hid (HF.out.al2 hV)
  clear hV
  refine (gate_lay _ _ _ _ _).mono ?_
  rintro e W5 ⟨rfl, hb⟩
  replace HF := Lib.hid (HF.out.step hb)
  clear hb
  have hold := olds W5
  go_wp2_with fail
  clear hold 
  generalize hV : World.alloc W5 _ = V6
  replace HF := Lib.hid (HF.out.al hV)
  clear hV
  refine (gate_lay _ _ _ _ _).mono ?_
  rintro e W7 ⟨rfl, hb⟩
  replace HF := Lib.hid (HF.out.step hb)
  clear hb
  have hold := olds W7
  go_wp2_with fail
  clear hold 
  generalize hV : World.alloc W7 _ = V8
  replace HF := Lib.hid (HF.out.al hV)
  clear hV
  refine (gate_lay _ _ _ _ _).mono ?_
  rintro e W9 ⟨rfl, hb⟩
  replace HF := Lib.hid (HF.out.step hb)
  clear hb
  have hold := olds W9
  go_wp2_with fail
  clear hold 
  generalize hV : World.alloc W9 _ = V10
  replace HF := Lib.hid (HF.out.al hV)
  clear hV
  refine (on_lay _ _ _ _ _).mono ?_
  rintro e W11 ⟨rfl, hb⟩
  replace HF := Lib.hid (HF.out.step hb)
  clear hb
  replace HF := Lib.hid (HF.out.push (.g (some ⟨W9.heap.size, 0, none⟩) exX.gates) (gatesOf [(gt 1 [0], W3.heap.size + 1), (gt 7 [0], W5.heap.size), (gt 1 [0], W7.heap.size)] (HF.out.iX 0) ⟨(HF.out.iX 3), (HF.out.iX 2), (HF.out.iX 1), trivial⟩))
  have hold := olds W11
  go_wp2_with fail
  clear hold 
  generalize hV : World.alloc (World.alloc W11 _) _ = V12
  replace HF := Lib.hid (HF.out.al2 hV)
  clear hV
  have hc := Apply_any (some ⟨W9.heap.size, 0, none⟩) (some ⟨W11.heap.size + 1, 0, none⟩) 3 1 exX ⟨26, 0, false, [0]⟩ V12 (Lib.hid (HT.out.below (HF.out.iB 12))) (HF.out.iG 2) (by decide) (RdI.blk [0] (HF.out.iX 0) rfl (by decide))
  rw [ex_apply] at hc
  refine hc.mono ?_
  clear hc
  rintro e W13 ⟨v, rfl, ho, hb⟩
  dsimp only at ho ⊢
  obtain ⟨A8, c8, rfl, _, hg⟩ := ho.rd (by decide) (by decide)
  simp only [exY, exX, List.length_cons, List.length_nil, Nat.reduceAdd, Nat.zero_add]
  replace HF := Lib.hid ((HF.out.step hb).push (.g A8 exY.gates) hg)
  clear ho hb hg
  have hold := olds W13
  go_wp2_with fail
  clear hold 
  generalize hV : World.alloc (World.alloc W13 _) _ = V14
  replace HF := Lib.hid (HF.out.al2 hV)
  clear hV
  have hc := Apply_any A8 (some ⟨W13.heap.size + 1, 0, none⟩) c8 1 exY ⟨26, 0, true, [0]⟩ V14 (Lib.hid (HT.out.below (HF.out.iB 15))) (HF.out.iG 2) (by assumption) (RdI.blk [0] (HF.out.iX 0) rfl (by decide))
  rw [ex_back] at hc
  refine hc.mono ?_
  clear hc
  rintro e W15 ⟨v, rfl, ho, hb⟩
  dsimp only at ho ⊢
  obtain ⟨A9, c9, rfl, _, hg⟩ := ho.rd (by decide) (by decide)
  simp only [exY, exX, List.length_cons, List.length_nil, Nat.reduceAdd, Nat.zero_add]
  replace HF := Lib.hid ((HF.out.step hb).push (.g A9 exX.gates) hg)
  clear ho hb hg
  have hold := olds W15
  go_wp2_with fail
  clear hold 
  generalize hV : World.alloc (World.alloc W15 _) _ = V16
  replace HF := Lib.hid (HF.out.al2 hV)
  clear hV
  refine (gate_lay _ _ _ _ _).mono ?_
  rintro e W17 ⟨rfl, hb⟩
  replace HF := Lib.hid (HF.out.step hb)
  clear hb
  have hold := olds W17
  go_wp2_with fail
  clear hold 
  generalize hV : World.alloc W17 _ = V18
  replace HF := Lib.hid (HF.out.al hV)
  clear hV
  refine (gate_lay _ _ _ _ _).mono ?_
  rintro e W19 ⟨rfl, hb⟩
  replace HF := Lib.hid (HF.out.step hb)
  clear hb
  have hold := olds W19
  go_wp2_with fail
  clear hold 
  generalize hV : World.alloc W19 _ = V20
  replace HF := Lib.hid (HF.out.al hV)
  clear hV
  refine (gate_lay _ _ _ _ _).mono ?_
  rintro e W21 ⟨rfl, hb⟩
  replace HF := Lib.hid (HF.out.step hb)
  clear hb
  have hold := olds W21
  go_wp2_with fail
  clear hold 
  generalize hV : World.alloc W21 _ = V22
  replace HF := Lib.hid (HF.out.al hV)
  clear hV
  refine (on_lay _ _ _ _ _).mono ?_
  rintro e W23 ⟨rfl, hb⟩
  replace HF := Lib.hid (HF.out.step hb)
  clear hb
  replace HF := Lib.hid (HF.out.push (.g (some ⟨W21.heap.size, 0, none⟩) exT.gates) (gatesOf [(gt 7 [0], W15.heap.size + 1), (gt 1 [1], W17.heap.size), (gt 7 [0], W19.heap.size)] (HF.out.iX 0) ⟨(HF.out.iX 3), (HF.out.iX 2), (HF.out.iX 1), trivial⟩))
  have hold := olds W23
  go_wp2_with fail
  clear hold 
  have hc := Steps_any (some ⟨W21.heap.size, 0, none⟩) 3 exT 43 false W23 (Lib.hid (HT.out.below (HF.out.iB 22))) (HF.out.iG 0) (by decide)
  rw [ex_steps] at hc
  refine hc.mono ?_
  clear hc
  rintro e W24 ⟨v, rfl, ho, hb⟩
  obtain ⟨A10, c10, rfl, _, hm⟩ := ho.rdM (by decide) (by decide)
  replace HF := Lib.hid ((HF.out.step hb).push (.m A10 exM) hm)
  clear ho hb hm
  obtain ⟨k00, k01, k02, k0f, lk0⟩ := HF.out.i3 20
  have hold := olds W24
  go_upto_region 8 with fail
  refine wp_region_st (by kernel_rfl) (.op 0 (.op 1 (.alt true 2 (.alt true 3 (.op 4 (.op 5 (.op 6 (.op 7 (.op 8 .fin))))) .stop) .stop))) (by kernel_rfl) (by kernel_rfl) (by kernel_rfl) ?_
  iterate 2 ((first|refine ST.q ?_|refine ST.m ?_|refine ST.n ?_|refine ST.v1 ?_ ST.stop|refine ST.k1 ?_ ST.stop);simp only [Act.put, pA, pB, pC])
  refine ST.c1 ?_ ST.stop
  refine (on_lay _ _ _ _ _).mono ?_
  rintro e W25 ⟨rfl, hb⟩
  have hb' : Below W24.heap.size W24 W25 := Below.trans bl hb
  replace HF := Lib.hid (HF.out.step hb')
  clear hold hb hb' k00 k01 k02 k0f lk0
  obtain ⟨k00, k01, k02, k0f, lk0⟩ := HF.out.i3 20
  have hold := olds W25
  refine ⟨_, rfl, sb, ?_⟩
  simp only [Act.put, pA, pB, pC]
  refine ST.c1 ?_ ST.stop
  have hc := rCheck_any A B none 4 2 0 exC ⟨2, 0, []⟩ exL W25 (Lib.hid (HT.out.below (HF.out.iB 23))) (HF.out.iG 22) (by decide) (HF.out.iM 21) (Rd.nil _ _ _ _)
  rw [ex_check] at hc
  refine hc.mono ?_
  clear hc
  rintro e W26 ⟨rfl, hb⟩
  replace HF := Lib.hid (HF.out.step hb)
  clear hold hb k00 k01 k02 k0f lk0
  obtain ⟨k00, k01, k02, k0f, lk0⟩ := HF.out.i3 20
  have hold := olds W26
  dsimp only
  refine ⟨_, rfl, sb, ?_⟩
  simp only [Act.put, pA, pB, pC]
  iterate 5 ((first|refine ST.q ?_|refine ST.m ?_|refine ST.n ?_|refine ST.v1 ?_ ST.stop|refine ST.k1 ?_ ST.stop);simp only [Act.put, pA, pB, pC])
  simp only [ST]
  go_wp2_with fail
  clear hold k00 k01 k02 k0f lk0
  have hc := Invert_any A B 4 2 exC exL W26 (Lib.hid (HT.out.below (HF.out.iB 23))) (HF.out.iG 22) (by decide) (HF.out.iM 21) (by decide) (by decide)
  rw [ex_invert] at hc
  refine hc.mono ?_
  clear hc
  rintro e W27 ⟨v, rfl, ho, hb⟩
  obtain ⟨A11, c11, rfl, _, hm⟩ := ho.rdM (by decide) (by decide)
  replace HF := Lib.hid ((HF.out.step hb).push (.m A11 exI) hm)
  clear ho hb hm
  have hold := olds W27
  go_wp2_with fail
  clear hold 
  generalize hV : World.alloc W27 _ = V28
  replace HF := Lib.hid (HF.out.al hV)
  clear hV
  refine (gate_lay _ _ _ _ _).mono ?_
  rintro e W29 ⟨rfl, hb⟩
  replace HF := Lib.hid (HF.out.step hb)
  clear hb
  have hold := olds W29
  go_wp2_with fail
  clear hold 
  generalize hV : World.alloc W29 _ = V30
  replace HF := Lib.hid (HF.out.al hV)
  clear hV
  refine (gate_lay _ _ _ _ _).mono ?_
  rintro e W31 ⟨rfl, hb⟩
  replace HF := Lib.hid (HF.out.step hb)
  clear hb
  have hold := olds W31
  go_wp2_with fail
  clear hold 
  generalize hV : World.alloc W31 _ = V32
  replace HF := Lib.hid (HF.out.al hV)
  clear hV
  refine (on_lay _ _ _ _ _).mono ?_
  rintro e W33 ⟨rfl, hb⟩
  replace HF := Lib.hid (HF.out.step hb)
  clear hb
  replace HF := Lib.hid (HF.out.push (.g (some ⟨W31.heap.size, 0, none⟩) exA.gates) (gatesOf [(gt 1 [0], W27.heap.size), (gt 3 [0], W29.heap.size)] (HF.out.iX 0) ⟨(HF.out.iX 2), (HF.out.iX 1), trivial⟩))
  have hold := olds W33
  go_wp2_with fail
  clear hold 
  generalize hV : World.alloc W33 _ = V34
  replace HF := Lib.hid (HF.out.al hV)
  clear hV
  refine (gate_lay _ _ _ _ _).mono ?_
  rintro e W35 ⟨rfl, hb⟩
  replace HF := Lib.hid (HF.out.step hb)
  clear hb
  have hold := olds W35
  go_wp2_with fail
  clear hold 
  generalize hV : World.alloc W35 _ = V36
  replace HF := Lib.hid (HF.out.al hV)
  clear hV
  refine (gate_lay _ _ _ _ _).mono ?_
  rintro e W37 ⟨rfl, hb⟩
  replace HF := Lib.hid (HF.out.step hb)
  clear hb
  have hold := olds W37
  go_wp2_with fail
  clear hold 
  generalize hV : World.alloc W37 _ = V38
  replace HF := Lib.hid (HF.out.al hV)
  clear hV
  refine (on_lay _ _ _ _ _).mono ?_
  rintro e W39 ⟨rfl, hb⟩
  replace HF := Lib.hid (HF.out.step hb)
  clear hb
  replace HF := Lib.hid (HF.out.push (.g (some ⟨W37.heap.size, 0, none⟩) exB.gates) (gatesOf [(gt 3 [0], W33.heap.size), (gt 1 [0], W35.heap.size)] (HF.out.iX 0) ⟨(HF.out.iX 2), (HF.out.iX 1), trivial⟩))
  have hold := olds W39
  go_wp2_with fail
  clear hold 
  have hc := Search_any (some ⟨W31.heap.size, 0, none⟩) (some ⟨W37.heap.size, 0, none⟩) 2 2 exA exB 2 W39 (Lib.hid (HT.out.below (HF.out.iB 32))) (HF.out.iG 4) (by decide) (HF.out.iG 0)
  rw [ex_search] at hc
  refine hc.mono ?_
  clear hc
  rintro e W40 ⟨v, rfl, ho, hb⟩
  obtain ⟨A12, c12, rfl, _, hm⟩ := ho.rdM (by decide) (by decide)
  replace HF := Lib.hid ((HF.out.step hb).push (.m A12 exF) hm)
  clear ho hb hm
  obtain ⟨k00, k01, k02, k0f, lk0⟩ := HF.out.i3 28
  obtain ⟨k10, k11, k12, k1f, lk1⟩ := HF.out.i3 19
  obtain ⟨k20, k21, k22, k2f, lk2⟩ := HF.out.i3 16
  obtain ⟨k30, k31, k32, k3f, lk3⟩ := HF.out.i3 22
  have hold := olds W40
  go_upto_region 11 with fail
  refine wp_region_st (by kernel_rfl) (.op 0 (.op 1 (.op 2 (.op 3 (.op 4 (.op 5 (.op 6 (.op 7 (.op 8 (.op 9 (.op 10 (.op 11 (.op 12 (.op 13 (.op 14 (.op 15 (.op 16 (.op 17 (.op 18 (.op 19 (.op 20 (.op 21 (.op 22 (.op 23 (.op 24 (.op 25 (.op 26 (.op 27 (.op 28 (.op 29 (.op 30 (.op 31 (.op 32 (.alt true 33 (.op 34 (.op 35 (.op 36 (.op 37 (.op 38 (.op 39 (.op 40 (.op 41 (.op 42 (.op 43 (.op 44 (.op 45 (.op 46 (.alt true 47 (.alt true 48 (.alt true 49 (.alt true 50 (.alt true 51 (.op 52 (.op 53 (.op 54 (.op 55 (.op 56 (.op 57 (.op 58 (.op 59 (.alt true 60 (.op 61 (.op 62 (.op 63 (.op 64 (.op 65 (.op 66 (.op 67 (.op 68 (.op 69 (.alt true 70 (.alt true 71 (.op 72 (.op 73 (.op 74 (.op 75 (.op 76 (.op 77 (.op 78 (.alt true 79 (.op 80 (.alt true 81 (.op 82 (.alt true 83 (.alt true 84 (.op 85 (.op 86 (.op 87 (.alt true 88 (.op 89 (.alt true 90 (.op 91 (.alt true 92 (.alt true 93 (.op 94 (.op 95 .fin)) .stop) .stop)) .stop)) (.alt false 90 (.op 91 (.alt true 88 (.op 89 (.alt true 92 (.alt true 93 (.op 94 (.op 95 .fin)) .stop) .stop)) .stop)) .stop))))) .stop) .stop)) .stop)) (.alt false 81 (.op 82 (.alt true 79 (.op 80 (.alt true 83 (.alt true 84 (.op 85 (.op 86 (.op 87 (.alt true 88 (.op 89 (.alt true 90 (.op 91 (.alt true 92 (.alt true 93 (.op 94 (.op 95 .fin)) .stop) .stop)) .stop)) (.alt false 90 (.op 91 (.alt true 88 (.op 89 (.alt true 92 (.alt true 93 (.op 94 (.op 95 .fin)) .stop) .stop)) .stop)) .stop))))) .stop) .stop)) .stop)) .stop))))))))) .stop) .stop)))))))))) .stop))))))))) .stop) .stop) .stop) .stop) .stop)))))))))))))) .stop)))))))))))))))))))))))))))))))))) (by kernel_rfl) (by kernel_rfl) (by kernel_rfl) ?_
  iterate 33 ((first|refine ST.q ?_|refine ST.m ?_|refine ST.n ?_|refine ST.v1 ?_ ST.stop|refine ST.k1 ?_ ST.stop);simp only [Act.put, pA, pB, pC])
  refine ST.c1 ?_ ST.stop
  clear hold k00 k01 k02 k0f lk0 k10 k11 k12 k1f lk1 k20 k21 k22 k2f lk2 k30 k31 k32 k3f lk3
  generalize hV : W40.drew = V41
  replace HF := Lib.hid (HF.out.dr hV)
  clear hV
  have hc := rEqual_any A2 B 2 2 c2 2 exL exL V41 (HF.out.iM 29) (HF.out.iM 31) rfl rfl
  rw [decide_eq_true rfl] at hc
  refine hc.mono ?_
  clear hc
  rintro e W42 ⟨rfl, hb⟩
  replace HF := Lib.hid (HF.out.step hb)
  clear hb
  obtain ⟨k00, k01, k02, k0f, lk0⟩ := HF.out.i3 28
  obtain ⟨k10, k11, k12, k1f, lk1⟩ := HF.out.i3 19
  obtain ⟨k20, k21, k22, k2f, lk2⟩ := HF.out.i3 16
  obtain ⟨k30, k31, k32, k3f, lk3⟩ := HF.out.i3 22
  have hold := olds W42
  refine ⟨_, rfl, sb, ?_⟩
  simp only [Act.put, pA, pB, pC]
  iterate 14 ((first|refine ST.q ?_|refine ST.m ?_|refine ST.n ?_|refine ST.v1 ?_ ST.stop|refine ST.k1 ?_ ST.stop);simp only [Act.put, pA, pB, pC])
  refine ST.c1 ?_ ST.stop
  clear hold k00 k01 k02 k0f lk0 k10 k11 k12 k1f lk1 k20 k21 k22 k2f lk2 k30 k31 k32 k3f lk3
  generalize hV : World.alloc W42 _ = V43
  replace HF := Lib.hid (HF.out.al hV)
  clear hV
  refine (gate_lay _ _ _ _ _).mono ?_
  rintro e W44 ⟨rfl, hb⟩
  replace HF := Lib.hid (HF.out.step hb)
  clear hb
  obtain ⟨k00, k01, k02, k0f, lk0⟩ := HF.out.i3 29
  obtain ⟨k10, k11, k12, k1f, lk1⟩ := HF.out.i3 20
  obtain ⟨k20, k21, k22, k2f, lk2⟩ := HF.out.i3 17
  obtain ⟨k30, k31, k32, k3f, lk3⟩ := HF.out.i3 23
  have hold := olds W44
  refine ⟨_, rfl, sb, ?_⟩
  simp only [Act.put, pA, pB, pC]
  (first|refine ST.q ?_|refine ST.m ?_|refine ST.n ?_|refine ST.v1 ?_ ST.stop|refine ST.k1 ?_ ST.stop)
  simp only [Act.put, pA, pB, pC]
  refine ST.c1 ?_ ST.stop
  clear hold k00 k01 k02 k0f lk0 k10 k11 k12 k1f lk1 k20 k21 k22 k2f lk2 k30 k31 k32 k3f lk3
  generalize hV : World.alloc W44 _ = V45
  replace HF := Lib.hid (HF.out.al hV)
  clear hV
  refine (on_lay _ _ _ _ _).mono ?_
  rintro e W46 ⟨rfl, hb⟩
  replace HF := Lib.hid (HF.out.step hb)
  clear hb
  replace HF := Lib.hid (HF.out.push (.g (some ⟨W44.heap.size, 0, none⟩) exY.gates) (gatesOf [(gt 8 [0], W42.heap.size)] (HF.out.iX 0) ⟨(HF.out.iX 1), trivial⟩))
  obtain ⟨k00, k01, k02, k0f, lk0⟩ := HF.out.i3 31
  obtain ⟨k10, k11, k12, k1f, lk1⟩ := HF.out.i3 22
  obtain ⟨k20, k21, k22, k2f, lk2⟩ := HF.out.i3 19
  obtain ⟨k30, k31, k32, k3f, lk3⟩ := HF.out.i3 25
  have hold := olds W46
  refine ⟨_, rfl, sb, ?_⟩
  simp only [Act.put, pA, pB, pC]
  refine ST.c1 ?_ ST.stop
  clear hold k00 k01 k02 k0f lk0 k10 k11 k12 k1f lk1 k20 k21 k22 k2f lk2 k30 k31 k32 k3f lk3
  have hc := kSame_any A8 (some ⟨W44.heap.size, 0, none⟩) c8 1 exY exY W46 (HF.out.iG 23) (HF.out.iG 0)
  rw [decide_eq_true rfl] at hc
  refine hc.mono ?_
  clear hc
  rintro e W47 ⟨rfl, hb⟩
  replace HF := Lib.hid (HF.out.step hb)
  clear hb
  obtain ⟨k00, k01, k02, k0f, lk0⟩ := HF.out.i3 31
  obtain ⟨k10, k11, k12, k1f, lk1⟩ := HF.out.i3 22
  obtain ⟨k20, k21, k22, k2f, lk2⟩ := HF.out.i3 19
  obtain ⟨k30, k31, k32, k3f, lk3⟩ := HF.out.i3 25
  have hold := olds W47
  refine ⟨_, rfl, sb, ?_⟩
  simp only [Act.put, pA, pB, pC]
  iterate 8 ((first|refine ST.q ?_|refine ST.m ?_|refine ST.n ?_|refine ST.v1 ?_ ST.stop|refine ST.k1 ?_ ST.stop);simp only [Act.put, pA, pB, pC])
  refine ST.c1 ?_ ST.stop
  clear hold k00 k01 k02 k0f lk0 k10 k11 k12 k1f lk1 k20 k21 k22 k2f lk2 k30 k31 k32 k3f lk3
  have hc := kSame_any A9 (some ⟨W9.heap.size, 0, none⟩) c9 3 exX exX W47 (HF.out.iG 20) (HF.out.iG 26)
  rw [decide_eq_true rfl] at hc
  refine hc.mono ?_
  clear hc
  rintro e W48 ⟨rfl, hb⟩
  replace HF := Lib.hid (HF.out.step hb)
  clear hb
  obtain ⟨k00, k01, k02, k0f, lk0⟩ := HF.out.i3 31
  obtain ⟨k10, k11, k12, k1f, lk1⟩ := HF.out.i3 22
  obtain ⟨k20, k21, k22, k2f, lk2⟩ := HF.out.i3 19
  obtain ⟨k30, k31, k32, k3f, lk3⟩ := HF.out.i3 25
  have hold := olds W48
  have K3 := olds3 W48
  refine ⟨_, rfl, sb, ?_⟩
  simp only [Act.put, pA, pB, pC]
  iterate 10 ((first|refine ST.q ?_|refine ST.m ?_|refine ST.n ?_|refine ST.v1 ?_ ST.stop|refine ST.k1 ?_ ST.stop);simp only [Act.put, pA, pB, pC])
  refine ST.c1 ?_ ST.stop
  clear hold K3 k00 k01 k02 k0f lk0 k10 k11 k12 k1f lk1 k20 k21 k22 k2f lk2 k30 k31 k32 k3f lk3
  generalize hV : World.alloc W48 _ = V49
  replace HF := Lib.hid (HF.out.al hV)
  clear hV
  have hm : RdM V49 (some ⟨W48.heap.size, 0, none⟩) exM := by
    refine Rd.blk [[.int .i64 43, .int .i64 0, .bool false, .slice none 0 0], [.int .i64 43, .int .i64 1, .bool false, .slice none 0 0]] (HF.out.iX 0) rfl (by decide) rfl (by simp) fun k x cs hx hc => ?_
    rcases k with _ | _ | k
    · cases hx; cases hc; exact ⟨_, _, rfl, Nat.le_refl _, Rd.nil _ _ _ _⟩
    · cases hx; cases hc; exact ⟨_, _, rfl, Nat.le_refl _, Rd.nil _ _ _ _⟩
    · simp at hc
  replace HF := Lib.hid (HF.out.push (.m (some ⟨W48.heap.size, 0, none⟩) exM) hm)
  clear hm
  have hc := rEqual_any A10 (some ⟨W48.heap.size, 0, none⟩) 2 2 c10 2 exM exM V49 (HF.out.iM 15) (HF.out.iM 0) rfl rfl
  rw [decide_eq_true rfl] at hc
  refine hc.mono ?_
  clear hc
  rintro e W50 ⟨rfl, hb⟩
  replace HF := Lib.hid (HF.out.step hb)
  clear hb
  obtain ⟨k00, k01, k02, k0f, lk0⟩ := HF.out.i3 33
  obtain ⟨k10, k11, k12, k1f, lk1⟩ := HF.out.i3 24
  obtain ⟨k20, k21, k22, k2f, lk2⟩ := HF.out.i3 21
  obtain ⟨k30, k31, k32, k3f, lk3⟩ := HF.out.i3 27
  have hold := olds W50
  have K3 := olds3 W50
  refine ⟨_, rfl, sb, ?_⟩
  simp only [Act.put, pA, pB, pC]
  iterate 7 ((first|refine ST.q ?_|refine ST.m ?_|refine ST.n ?_|refine ST.v1 ?_ ST.stop|refine ST.k1 ?_ ST.stop);simp only [Act.put, pA, pB, pC])
  refine ST.v1 ?_ ?_
  · simp only [Act.put, pA, pB, pC]
    iterate 4 ((first|refine ST.q ?_|refine ST.m ?_|refine ST.n ?_|refine ST.v1 ?_ ST.stop|refine ST.k1 ?_ ST.stop);simp only [Act.put, pA, pB, pC])
    refine ST.c1 ?_ ST.stop
    clear hold K3 k00 k01 k02 k0f lk0 k10 k11 k12 k1f lk1 k20 k21 k22 k2f lk2 k30 k31 k32 k3f lk3
    generalize hV : World.alloc (World.alloc (World.alloc W50 _) _) _ = V51
    replace HF := Lib.hid (HF.out.al3 hV)
    clear hV
    replace HF := Lib.hid (HF.out.push (.m (some ⟨W50.heap.size + 2, 0, none⟩) exI) (movesOf [(⟨9, 0, true, [0, 1]⟩, W50.heap.size), (⟨33, 0, true, [0, 1]⟩, W50.heap.size + 1)] (HF.out.iX 0) ⟨(HF.out.iX 2), (HF.out.iX 1), trivial⟩))
    have hc := rEqual_any A11 (some ⟨W50.heap.size + 2, 0, none⟩) 2 2 c11 2 exI exI V51 (HF.out.iM 18) (HF.out.iM 0) rfl rfl
    rw [decide_eq_true rfl] at hc
    refine hc.mono ?_
    clear hc
    rintro e W52 ⟨rfl, hb⟩
    replace HF := Lib.hid (HF.out.step hb)
    clear hb
    obtain ⟨k00, k01, k02, k0f, lk0⟩ := HF.out.i3 37
    obtain ⟨k10, k11, k12, k1f, lk1⟩ := HF.out.i3 28
    obtain ⟨k20, k21, k22, k2f, lk2⟩ := HF.out.i3 25
    obtain ⟨k30, k31, k32, k3f, lk3⟩ := HF.out.i3 31
    have hold := olds W52
    have K3 := olds3 W52
    refine ⟨_, rfl, sb, ?_⟩
    simp only [Act.put, pA, pB, pC]
    iterate 3 ((first|refine ST.q ?_|refine ST.m ?_|refine ST.n ?_|refine ST.v1 ?_ ST.stop|refine ST.k1 ?_ ST.stop);simp only [Act.put, pA, pB, pC])
    refine ST.v1 ?_ ?_
    · simp only [Act.put, pA, pB, pC]
      iterate 4 ((first|refine ST.q ?_|refine ST.m ?_|refine ST.n ?_|refine ST.v1 ?_ ST.stop|refine ST.k1 ?_ ST.stop);simp only [Act.put, pA, pB, pC])
      refine ST.c1 ?_ ST.stop
      clear hold K3 k00 k01 k02 k0f lk0 k10 k11 k12 k1f lk1 k20 k21 k22 k2f lk2 k30 k31 k32 k3f lk3
      generalize hV : World.alloc (World.alloc (World.alloc W52 _) _) _ = V53
      replace HF := Lib.hid (HF.out.al3 hV)
      clear hV
      replace HF := Lib.hid (HF.out.push (.m (some ⟨W52.heap.size + 2, 0, none⟩) exF) (movesOf [(⟨0, 2, true, [0]⟩, W52.heap.size), (⟨23, 0, false, [0]⟩, W52.heap.size + 1)] (HF.out.iX 0) ⟨(HF.out.iX 2), (HF.out.iX 1), trivial⟩))
      have hc := rEqual_any A12 (some ⟨W52.heap.size + 2, 0, none⟩) 2 2 c12 2 exF exF V53 (HF.out.iM 13) (HF.out.iM 0) rfl rfl
      rw [decide_eq_true rfl] at hc
      refine hc.mono ?_
      clear hc
      rintro e W54 ⟨rfl, hb⟩
      replace HF := Lib.hid (HF.out.step hb)
      clear hb
      obtain ⟨k00, k01, k02, k0f, lk0⟩ := HF.out.i3 41
      obtain ⟨k10, k11, k12, k1f, lk1⟩ := HF.out.i3 32
      obtain ⟨k20, k21, k22, k2f, lk2⟩ := HF.out.i3 29
      obtain ⟨k30, k31, k32, k3f, lk3⟩ := HF.out.i3 35
      have hold := olds W54
      have K3 := olds3 W54
      refine ⟨_, rfl, sb, ?_⟩
      simp only [Act.put, pA, pB, pC]
      iterate 2 ((first|refine ST.q ?_|refine ST.m ?_|refine ST.n ?_|refine ST.v1 ?_ ST.stop|refine ST.k1 ?_ ST.stop);simp only [Act.put, pA, pB, pC])
      simp only [ST]
      go_wp2
      go_ret
      exact ⟨rfl, HF.out.iB 46⟩
    refine ST.v1 ?_ ST.stop
    simp only [Act.put, pA, pB, pC]
    iterate 4 ((first|refine ST.q ?_|refine ST.m ?_|refine ST.n ?_|refine ST.v1 ?_ ST.stop|refine ST.k1 ?_ ST.stop);simp only [Act.put, pA, pB, pC])
    refine ST.c1 ?_ ST.stop
    clear hold K3 k00 k01 k02 k0f lk0 k10 k11 k12 k1f lk1 k20 k21 k22 k2f lk2 k30 k31 k32 k3f lk3
    generalize hV : World.alloc (World.alloc (World.alloc W52 _) _) _ = V53
    replace HF := Lib.hid (HF.out.al3 hV)
    clear hV
    replace HF := Lib.hid (HF.out.push (.m (some ⟨W52.heap.size + 2, 0, none⟩) exF) (movesOf [(⟨0, 2, true, [0]⟩, W52.heap.size + 1), (⟨23, 0, false, [0]⟩, W52.heap.size)] (HF.out.iX 0) ⟨(HF.out.iX 1), (HF.out.iX 2), trivial⟩))
    have hc := rEqual_any A12 (some ⟨W52.heap.size + 2, 0, none⟩) 2 2 c12 2 exF exF V53 (HF.out.iM 13) (HF.out.iM 0) rfl rfl
    rw [decide_eq_true rfl] at hc
    refine hc.mono ?_
    clear hc
    rintro e W54 ⟨rfl, hb⟩
    replace HF := Lib.hid (HF.out.step hb)
    clear hb
    obtain ⟨k00, k01, k02, k0f, lk0⟩ := HF.out.i3 41
    obtain ⟨k10, k11, k12, k1f, lk1⟩ := HF.out.i3 32
    obtain ⟨k20, k21, k22, k2f, lk2⟩ := HF.out.i3 29
    obtain ⟨k30, k31, k32, k3f, lk3⟩ := HF.out.i3 35
    have hold := olds W54
    have K3 := olds3 W54
    refine ⟨_, rfl, sb, ?_⟩
    simp only [Act.put, pA, pB, pC]
    iterate 2 ((first|refine ST.q ?_|refine ST.m ?_|refine ST.n ?_|refine ST.v1 ?_ ST.stop|refine ST.k1 ?_ ST.stop);simp only [Act.put, pA, pB, pC])
    simp only [ST]
    go_wp2
    go_ret
    exact ⟨rfl, HF.out.iB 46⟩
  refine ST.v1 ?_ ST.stop
  simp only [Act.put, pA, pB, pC]
  iterate 4 ((first|refine ST.q ?_|refine ST.m ?_|refine ST.n ?_|refine ST.v1 ?_ ST.stop|refine ST.k1 ?_ ST.stop);simp only [Act.put, pA, pB, pC])
  refine ST.c1 ?_ ST.stop
  clear hold K3 k00 k01 k02 k0f lk0 k10 k11 k12 k1f lk1 k20 k21 k22 k2f lk2 k30 k31 k32 k3f lk3
  generalize hV : World.alloc (World.alloc (World.alloc W50 _) _) _ = V51
  replace HF := Lib.hid (HF.out.al3 hV)
  clear hV
  replace HF := Lib.hid (HF.out.push (.m (some ⟨W50.heap.size + 2, 0, none⟩) exI) (movesOf [(⟨9, 0, true, [0, 1]⟩, W50.heap.size + 1), (⟨33, 0, true, [0, 1]⟩, W50.heap.size)] (HF.out.iX 0) ⟨(HF.out.iX 1), (HF.out.iX 2), trivial⟩))
  have hc := rEqual_any A11 (some ⟨W50.heap.size + 2, 0, none⟩) 2 2 c11 2 exI exI V51 (HF.out.iM 18) (HF.out.iM 0) rfl rfl
  rw [decide_eq_true rfl] at hc
  refine hc.mono ?_
  clear hc
  rintro e W52 ⟨rfl, hb⟩
  replace HF := Lib.hid (HF.out.step hb)
  clear hb
  obtain ⟨k00, k01, k02, k0f, lk0⟩ := HF.out.i3 37
  obtain ⟨k10, k11, k12, k1f, lk1⟩ := HF.out.i3 28
  obtain ⟨k20, k21, k22, k2f, lk2⟩ := HF.out.i3 25
  obtain ⟨k30, k31, k32, k3f, lk3⟩ := HF.out.i3 31
  have hold := olds W52
  have K3 := olds3 W52
  refine ⟨_, rfl, sb, ?_⟩
  simp only [Act.put, pA, pB, pC]
  iterate 3 ((first|refine ST.q ?_|refine ST.m ?_|refine ST.n ?_|refine ST.v1 ?_ ST.stop|refine ST.k1 ?_ ST.stop);simp only [Act.put, pA, pB, pC])
  refine ST.v1 ?_ ?_
  · simp only [Act.put, pA, pB, pC]
    iterate 4 ((first|refine ST.q ?_|refine ST.m ?_|refine ST.n ?_|refine ST.v1 ?_ ST.stop|refine ST.k1 ?_ ST.stop);simp only [Act.put, pA, pB, pC])
    refine ST.c1 ?_ ST.stop
    clear hold K3 k00 k01 k02 k0f lk0 k10 k11 k12 k1f lk1 k20 k21 k22 k2f lk2 k30 k31 k32 k3f lk3
    generalize hV : World.alloc (World.alloc (World.alloc W52 _) _) _ = V53
    replace HF := Lib.hid (HF.out.al3 hV)
    clear hV
    replace HF := Lib.hid (HF.out.push (.m (some ⟨W52.heap.size + 2, 0, none⟩) exF) (movesOf [(⟨0, 2, true, [0]⟩, W52.heap.size), (⟨23, 0, false, [0]⟩, W52.heap.size + 1)] (HF.out.iX 0) ⟨(HF.out.iX 2), (HF.out.iX 1), trivial⟩))
    have hc := rEqual_any A12 (some ⟨W52.heap.size + 2, 0, none⟩) 2 2 c12 2 exF exF V53 (HF.out.iM 13) (HF.out.iM 0) rfl rfl
    rw [decide_eq_true rfl] at hc
    refine hc.mono ?_
    clear hc
    rintro e W54 ⟨rfl, hb⟩
    replace HF := Lib.hid (HF.out.step hb)
    clear hb
    obtain ⟨k00, k01, k02, k0f, lk0⟩ := HF.out.i3 41
    obtain ⟨k10, k11, k12, k1f, lk1⟩ := HF.out.i3 32
    obtain ⟨k20, k21, k22, k2f, lk2⟩ := HF.out.i3 29
    obtain ⟨k30, k31, k32, k3f, lk3⟩ := HF.out.i3 35
    have hold := olds W54
    have K3 := olds3 W54
    refine ⟨_, rfl, sb, ?_⟩
    simp only [Act.put, pA, pB, pC]
    iterate 2 ((first|refine ST.q ?_|refine ST.m ?_|refine ST.n ?_|refine ST.v1 ?_ ST.stop|refine ST.k1 ?_ ST.stop);simp only [Act.put, pA, pB, pC])
    simp only [ST]
    go_wp2
    go_ret
    exact ⟨rfl, HF.out.iB 46⟩
  refine ST.v1 ?_ ST.stop
  simp only [Act.put, pA, pB, pC]
  iterate 4 ((first|refine ST.q ?_|refine ST.m ?_|refine ST.n ?_|refine ST.v1 ?_ ST.stop|refine ST.k1 ?_ ST.stop);simp only [Act.put, pA, pB, pC])
  refine ST.c1 ?_ ST.stop
  clear hold K3 k00 k01 k02 k0f lk0 k10 k11 k12 k1f lk1 k20 k21 k22 k2f lk2 k30 k31 k32 k3f lk3
  generalize hV : World.alloc (World.alloc (World.alloc W52 _) _) _ = V53
  replace HF := Lib.hid (HF.out.al3 hV)
  clear hV
  replace HF := Lib.hid (HF.out.push (.m (some ⟨W52.heap.size + 2, 0, none⟩) exF) (movesOf [(⟨0, 2, true, [0]⟩, W52.heap.size + 1), (⟨23, 0, false, [0]⟩, W52.heap.size)] (HF.out.iX 0) ⟨(HF.out.iX 1), (HF.out.iX 2), trivial⟩))
  have hc := rEqual_any A12 (some ⟨W52.heap.size + 2, 0, none⟩) 2 2 c12 2 exF exF V53 (HF.out.iM 13) (HF.out.iM 0) rfl rfl
  rw [decide_eq_true rfl] at hc
  refine hc.mono ?_
  clear hc
  rintro e W54 ⟨rfl, hb⟩
  replace HF := Lib.hid (HF.out.step hb)
  clear hb
  obtain ⟨k00, k01, k02, k0f, lk0⟩ := HF.out.i3 41
  obtain ⟨k10, k11, k12, k1f, lk1⟩ := HF.out.i3 32
  obtain ⟨k20, k21, k22, k2f, lk2⟩ := HF.out.i3 29
  obtain ⟨k30, k31, k32, k3f, lk3⟩ := HF.out.i3 35
  have hold := olds W54
  have K3 := olds3 W54
  refine ⟨_, rfl, sb, ?_⟩
  simp only [Act.put, pA, pB, pC]
  iterate 2 ((first|refine ST.q ?_|refine ST.m ?_|refine ST.n ?_|refine ST.v1 ?_ ST.stop|refine ST.k1 ?_ ST.stop);simp only [Act.put, pA, pB, pC])
  simp only [ST]
  go_wp2
  go_ret
  exact ⟨rfl, HF.out.iB 46⟩
end Go.Proofs.YtfommmijojfdbaaGreatDoor
