/- The law of small examples is walked. (Written by mkSM.py.) -/
import Derived.Test.YtfommmijojfdbaaGreatDoorSM
import Derived.Test.YtfommmijojfdbaaGreatDoorF30
import Derived.Test.YtfommmijojfdbaaGreatDoorSC
import Derived.Test.YtfommmijojfdbaaGreatDoorZ16
set_option linter.all false
namespace Go.Proofs.YtfommmijojfdbaaGreatDoor
open Go.RowKit

set_option maxRecDepth 1000000 in
set_option maxHeartbeats 64000000 in
theorem small_law (w : World) (HT : Hid (Laid w)) : Calls Tryz.prog 8 #[] w fun e w' => e = .returned (.bool true) ∧ Below w.heap.size w w' := by
  go_enter Tryz.func8, Tryz.ntmps8
  have HF := Lib.hid ((AllF.nil w).push (.bel w) (Below.refl _ _))
  have hold := olds w
  go_wp2_with fail
  clear hold 
  generalize hV : World.alloc w _ = V1
  replace HF := Lib.hid (HF.out.al hV)
  clear hV
  refine (gate_lay _ _ _ _ _).mono ?_
  rintro e W2 ⟨rfl, hb⟩
  replace HF := Lib.hid (HF.out.step hb)
  clear hb
  have hold := olds W2
  go_wp2_with fail
  clear hold 
  generalize hV : World.alloc W2 _ = V3
  replace HF := Lib.hid (HF.out.al hV)
  clear hV
  refine (gate_lay _ _ _ _ _).mono ?_
  rintro e W4 ⟨rfl, hb⟩
  replace HF := Lib.hid (HF.out.step hb)
  clear hb
  have hold := olds W4
  go_wp2_with fail
  clear hold 
  generalize hV : World.alloc W4 _ = V5
  replace HF := Lib.hid (HF.out.al hV)
  clear hV
  refine (on_lay _ _ _ _ _).mono ?_
  rintro e W6 ⟨rfl, hb⟩
  replace HF := Lib.hid (HF.out.step hb)
  clear hb
  replace HF := Lib.hid (HF.out.push (.g (some ⟨W4.heap.size, 0, none⟩) smA.gates) (gatesOf [(gt 5 [0], w.heap.size), (gt 5 [0], W2.heap.size)] (HF.out.iX 0) ⟨(HF.out.iX 2), (HF.out.iX 1), trivial⟩))
  have hold := olds W6
  go_wp2_with fail
  clear hold 
  generalize hV : World.alloc W6 _ = V7
  replace HF := Lib.hid (HF.out.al hV)
  clear hV
  have hc := Steps_any (some ⟨W4.heap.size, 0, none⟩) 2 smA 12 false V7 (Lib.hid (HT.out.below (HF.out.iB 5))) (HF.out.iG 1) (by decide)
  rw [sm_steps] at hc
  refine hc.mono ?_
  clear hc
  rintro e W8 ⟨v, rfl, ho, hb⟩
  obtain ⟨A2, c2, rfl, _, hm⟩ := ho.rdM (by decide) (by decide)
  replace HF := Lib.hid ((HF.out.step hb).push (.m A2 smL) hm)
  clear ho hb hm
  obtain ⟨k00, k01, k02, k0f, lk0⟩ := HF.out.i3 1
  have hold := olds W8
  go_wp2_with fail
  clear hold k00 k01 k02 k0f lk0
  have hc := Steps_any (some ⟨W4.heap.size, 0, none⟩) 2 smA 0 true W8 (Lib.hid (HT.out.below (HF.out.iB 6))) (HF.out.iG 2) (by decide)
  rw [sm_back] at hc
  refine hc.mono ?_
  clear hc
  rintro e W9 ⟨v, rfl, ho, hb⟩
  obtain ⟨A3, c3, rfl, _, hm⟩ := ho.rdM (by decide) (by decide)
  replace HF := Lib.hid ((HF.out.step hb).push (.m A3 smK) hm)
  clear ho hb hm
  have hold := olds W9
  go_wp2_with fail
  clear hold 
  generalize hV : World.alloc W9 _ = V10
  replace HF := Lib.hid (HF.out.al hV)
  clear hV
  refine (gate_lay _ _ _ _ _).mono ?_
  rintro e W11 ⟨rfl, hb⟩
  replace HF := Lib.hid (HF.out.step hb)
  clear hb
  have hold := olds W11
  go_wp2_with fail
  clear hold 
  generalize hV : World.alloc W11 _ = V12
  replace HF := Lib.hid (HF.out.al hV)
  clear hV
  refine (gate_lay _ _ _ _ _).mono ?_
  rintro e W13 ⟨rfl, hb⟩
  replace HF := Lib.hid (HF.out.step hb)
  clear hb
  have hold := olds W13
  go_wp2_with fail
  clear hold 
  generalize hV : World.alloc W13 _ = V14
  replace HF := Lib.hid (HF.out.al hV)
  clear hV
  refine (gate_lay _ _ _ _ _).mono ?_
  rintro e W15 ⟨rfl, hb⟩
  replace HF := Lib.hid (HF.out.step hb)
  clear hb
  have hold := olds W15
  go_wp2_with fail
  clear hold 
  generalize hV : World.alloc W15 _ = V16
  replace HF := Lib.hid (HF.out.al hV)
  clear hV
  refine (gate_lay _ _ _ _ _).mono ?_
  rintro e W17 ⟨rfl, hb⟩
  replace HF := Lib.hid (HF.out.step hb)
  clear hb
  have hold := olds W17
  go_wp2_with fail
  clear hold 
  generalize hV : World.alloc W17 _ = V18
  replace HF := Lib.hid (HF.out.al hV)
  clear hV
  refine (on_lay _ _ _ _ _).mono ?_
  rintro e W19 ⟨rfl, hb⟩
  replace HF := Lib.hid (HF.out.step hb)
  clear hb
  replace HF := Lib.hid (HF.out.push (.g (some ⟨W17.heap.size, 0, none⟩) smB.gates) (gatesOf [(gt 9 [0, 1], W9.heap.size), (gt 9 [1, 0], W11.heap.size), (gt 9 [0, 1], W13.heap.size), (gt 11 [1, 0], W15.heap.size)] (HF.out.iX 0) ⟨(HF.out.iX 4), (HF.out.iX 3), (HF.out.iX 2), (HF.out.iX 1), trivial⟩))
  have hold := olds W19
  go_wp2_with fail
  clear hold 
  have hc := Shorten_any (some ⟨W17.heap.size, 0, none⟩) 4 smB W19 (Lib.hid (HT.out.below (HF.out.iB 13))) (HF.out.iG 0) (by decide)
  rw [sm_short] at hc
  refine hc.mono ?_
  clear hc
  rintro e W20 ⟨v, rfl, ho, hb⟩
  obtain ⟨A4, c4, rfl, _, hm⟩ := ho.rdM (by decide) (by decide)
  replace HF := Lib.hid ((HF.out.step hb).push (.m A4 smS) hm)
  clear ho hb hm
  simp only [smL, smK, smS, List.length_cons, List.length_nil, Nat.reduceAdd, Nat.zero_add]
  obtain ⟨pA2, qA2, rfl, _, x0⟩ := (HF.out.iM 8).pick 0
  simp at x0
  obtain ⟨pA3, qA3, rfl, _, x1⟩ := (HF.out.iM 7).pick 0
  simp at x1
  obtain ⟨_, _, e, _, x2⟩ := (HF.out.iM 7).pick 1
  cases e
  simp at x2
  obtain ⟨_, _, e, _, x3⟩ := (HF.out.iM 7).pick 2
  cases e
  simp at x3
  obtain ⟨pA4, qA4, rfl, x5, x4⟩ := (HF.out.iM 0).pick 0
  simp at x4
  simp at x5
  have hold := olds W20
  go_wp2_with fail
  clear hold 
  generalize hV : World.alloc W20 _ = V21
  replace HF := Lib.hid (HF.out.al hV)
  clear hV
  refine (gate_lay _ _ _ _ _).mono ?_
  rintro e W22 ⟨rfl, hb⟩
  replace HF := Lib.hid (HF.out.step hb)
  clear hb
  have hold := olds W22
  go_wp2_with fail
  clear hold 
  generalize hV : World.alloc W22 _ = V23
  replace HF := Lib.hid (HF.out.al hV)
  clear hV
  refine (gate_lay _ _ _ _ _).mono ?_
  rintro e W24 ⟨rfl, hb⟩
  replace HF := Lib.hid (HF.out.step hb)
  clear hb
  have hold := olds W24
  go_wp2_with fail
  clear hold 
  generalize hV : World.alloc W24 _ = V25
  replace HF := Lib.hid (HF.out.al hV)
  clear hV
  refine (on_lay _ _ _ _ _).mono ?_
  rintro e W26 ⟨rfl, hb⟩
  replace HF := Lib.hid (HF.out.step hb)
  clear hb
  replace HF := Lib.hid (HF.out.push (.g (some ⟨W24.heap.size, 0, none⟩) smP.gates) (gatesOf [(gt 1 [0], W20.heap.size), (gt 7 [0], W22.heap.size)] (HF.out.iX 0) ⟨(HF.out.iX 2), (HF.out.iX 1), trivial⟩))
  clear x0 x1 x2 x3 x4 x5
  have hold := olds W26
  go_wp2_with fail
  clear hold 
  generalize hV : World.alloc W26 _ = V27
  replace HF := Lib.hid (HF.out.al hV)
  clear hV
  refine (on_lay _ _ _ _ _).mono ?_
  rintro e W28 ⟨rfl, hb⟩
  replace HF := Lib.hid (HF.out.step hb)
  clear hb
  have hold := olds W28
  go_wp2_with fail
  clear hold 
  generalize hV : World.alloc W28 _ = V29
  replace HF := Lib.hid (HF.out.al hV)
  clear hV
  refine (on_lay _ _ _ _ _).mono ?_
  rintro e W30 ⟨rfl, hb⟩
  replace HF := Lib.hid (HF.out.step hb)
  clear hb
  have hold := olds W30
  go_upto_region 10 with fail
  clear hold
  generalize hV : World.alloc W30 _ = V31
  have hx : V31.heap[W30.heap.size]? = some (.cells #[.int .i64 1, .int .i64 0, .slice none 0 0] 24 (0, 0)) := by rw [← hV]; exact blk_alloc _ _ _ rfl
  have hb : Below W30.heap.size W30 V31 := by rw [← hV]; exact bl
  clear hV
  go_wp2_with fail
  go_loopw [137] (fun i wr => ∃ (x c : Nat) (A : Option Addr), x ≤ 119 ∧ i = .int .i64 x ∧ Hid (wr.heap[W30.heap.size]? = some (.cells #[.int .i64 1, .int .i64 0, .slice A x c] 24 (0, 0)) ∧ Own 3 55 (W30.heap.size + 1) wr (.slice A x c) (List.replicate x (gt 7 [0])) ∧ Below W30.heap.size W30 wr ∧ W30.heap.size + 1 ≤ wr.heap.size)) (fun i _ => 119 - (intOf i).toNat)
  case atStart => exact ⟨0, 0, none, by omega, rfl, Lib.hid ⟨hx, own_nil _ _ _ _, hb, blk_lt hx⟩⟩
  case round =>
    clear hx hb
    obtain ⟨x, cL, AL, hx, rfl, HI⟩ := hrel
    rename World => wr
    obtain ⟨e1, e2, e3, e4⟩ := HI.out
    have HI2 := HI
    by_cases hlt : x < 119
    · have hlt' : (x : Int) < 119 := by omega
      obtain ⟨r0, r1, r2, rf⟩ := cells3 e1
      have hbl := blk_lt e1
      have hold := olds wr
      clear e1 e2 e3 HI
      go_wp2
      refine wp_region_sg (by kernel_rfl) [0, 1, 2, 3, 4, 5, 6, 7] (by kernel_rfl) (by kernel_rfl) (by kernel_rfl) ?_
      refine SG.p (v := ?v1_12_0) rfl rfl rfl (fun W => ?h1_12_0) ?r1_12_0
      case h1_12_0 => (first|(go_simp;done)|(go_simp;with_reducible rfl))
      simp only [Act.put, pA, pB, pC]
      refine SG.l (v := ?v1_12_1) rfl rfl rfl ?h1_12_1 ?r1_12_1
      case h1_12_1 => (first|(go_simp;done)|(go_simp;with_reducible rfl))
      simp only [Act.put, pA, pB, pC]
      refine SG.v (v := ?v1_12_2) (w' := ?w1_12_2) rfl rfl rfl ?h1_12_2 ?s1_12_2 ?r1_12_2
      case h1_12_2 => (first|(go_simp;done)|(go_simp;with_reducible rfl)|(go_simp;constructor<;>with_reducible rfl))
      case s1_12_2 => exact ⟨(fun _ => ⟨_, drop_at rfl, by (first|(go_simp;done)|(go_simp;with_reducible rfl))⟩), trivial⟩
      simp only [Act.put, pA, pB, pC]
      refine SG.c rfl rfl rfl (by first|(go_simp;done)|(go_simp;with_reducible rfl)|(go_simp;exact ⟨⟨rfl, rfl⟩, rfl⟩)) ?_
      refine (gate_lay _ _ _ _ _).mono ?_
      rintro e w2 ⟨rfl, hb2⟩
      have hbr : Below wr.heap.size wr w2 := Below.trans (b := wr.drew.alloc (.cells #[.int .i64 0] 3)) (by (repeat (first|exact bR _ _|assumption|apply bN|apply bA|apply bD))) (hb2.mono (by simp))
      have q1 := blk2 hbr HI2.out.1
      replace r0 := kc hbr r0
      replace r1 := kc hbr r1
      replace r2 := kc hbr r2
      have hin : App EI 3 1 wr.heap.size w2 (.slice (some ⟨wr.heap.size, 0, none⟩) 1 1) [0] := (App.lit (w := wr.drew) (xs := [0]) (cs := [.int .i64 0]) (Nat.le_refl _) (by simp) (by have := Reps.nil (EI (wr.drew.alloc (.cells #[Value.int .i64 0] 3))) 1; exact (Reps.snoc this (c := [.int .i64 0]) (p := 0) rfl rfl))).below EI.stays hb2
      obtain ⟨ps, hps, hd, ho⟩ := HI2.out.2.1
      obtain rfl : ps.length = x := by have := congrArg List.length hps; simpa using this
      have HIN := Lib.hid (And.intro hin (And.intro (ho.below (EGv.stays _ _) hbr) (And.intro q1 (And.intro hbr (And.intro hps (hd.new (g := gt 7 [0]) ho hin (Nat.le_refl _)))))))
      have hsz2 := hbr.size
      clear hb2 hbr q1 hin hps hd ho
      refine ⟨_, rfl, ?_, ?_⟩
      · exact ⟨(fun _ => ⟨_, drop_at rfl, by (first|(go_simp;done)|(go_simp;with_reducible rfl))⟩), trivial⟩
      simp only [Act.put, pA, pB, pC]
      refine SG.v (v := ?v1_12_4) (w' := ?w1_12_4) rfl rfl rfl ?h1_12_4 ?s1_12_4 ?r1_12_4
      case h1_12_4 => (first|(go_simp;done)|(go_simp;with_reducible rfl)|(go_simp;constructor<;>with_reducible rfl))
      case s1_12_4 => exact ⟨(fun _ => ⟨_, drop_at rfl, by (first|(go_simp;done)|(go_simp;with_reducible rfl))⟩), trivial⟩
      simp only [Act.put, pA, pB, pC]
      refine SG.app (E := EGv 3 (W30.heap.size + 1)) 55 4 (W30.heap.size + 1) rfl rfl _ _ 22 (.agg #[.int .i64 0, .slice none 0 0, .int .i64 0, .int .i64 0]) 48 rfl Tryz.underlying22 (by kernel_rfl) rfl (by decide) (by decide) (.slice AL ps.length cL) ps (gt 7 [0], .slice (some ⟨wr.heap.size, 0, none⟩) 1 1) [.int .i64 7, .slice (some ⟨wr.heap.size, 0, none⟩) 1 1, .int .i64 0, .int .i64 0] rfl rfl rfl (by simp [Value.oneCell']) ⟨rfl, HIN.out.1.imp e4 (fun _ _ h => h)⟩ HIN.out.2.1 (by omega) (by omega) (fun _ _ _ h1 h2 _ _ h => h.other h1 h2 (by decide)) ?_
      intro v1 w1 ho1 hg1
      obtain ⟨A5, c5, hv1, hc5⟩ := ho1.form
      rw [List.length_append, List.length_singleton] at hv1 hc5
      subst hv1
      have hne : ∀ k, k < W30.heap.size + 1 → some k ≠ (Value.slice AL ps.length cL).ownBlock := fun k hk e => by
        rcases HIN.out.2.1.block with h | ⟨k', h, h', _⟩
        · rw [h] at e; cases e
        · rw [h] at e; cases e; omega
      have q1 := (hg1.block W30.heap.size (by omega) (hne _ (by omega))).trans HIN.out.2.2.1
      obtain ⟨r0, r1, r2, rf⟩ := cells3 q1
      have HG := Lib.hid (And.intro ho1 (And.intro hg1 q1))
      clear ho1 hg1 q1 hne
      refine ⟨?_, ?_⟩
      · exact ⟨(nw (by kernel_rfl)), trivial⟩
      simp only [Act.put, pA, pB, pC]
      refine SG.p (v := ?v1_12_6) rfl rfl rfl (fun W => ?h1_12_6) ?r1_12_6
      case h1_12_6 => (first|(go_simp;done)|(go_simp;with_reducible rfl))
      simp only [Act.put, pA, pB, pC]
      refine SG.k (w' := ?w1_12_7) rfl rfl rfl ?h1_12_7 ?s1_12_7 ?r1_12_7
      case h1_12_7 => (first|(go_simp;done)|(go_simp;with_reducible rfl))
      case s1_12_7 => exact ⟨(nw (by kernel_rfl)), trivial⟩
      simp only [Act.put, pA, pB, pC]
      simp only [SG]
      go_wp2
      go_roundw
      case rel =>
        refine ⟨ps.length + 1, c5, A5, by omega, by go_num, Lib.hid ⟨heap_setCell_same _ _ 2 _ _ _ HG.out.2.2, ⟨_, ?_, HIN.out.2.2.2.2.2, ?_⟩, ?_, ?_⟩⟩
        · rw [List.map_append, HIN.out.2.2.2.2.1, List.replicate_succ']; rfl
        · have := HG.out.1.setBox (a := ⟨W30.heap.size, 2, none⟩) (by simp) (by simp) (.slice A5 (ps.length + 1) c5)
          simpa using this
        · exact (HIN.out.2.1.grows HG.out.2.1 (HI2.out.2.2.1.trans (HIN.out.2.2.2.1.mono HI2.out.2.2.1.size)) (by omega) (by omega)).setCell (by simp) _
        · have := HG.out.2.1.size; simp; omega
      case measure => simp [intOf]; omega
    · have hlt' : ¬ (x : Int) < 119 := by omega
      have hx9 : x = 119 := by omega
      rw [hx9] at e1 e2
      have hcL : 119 ≤ cL := by obtain ⟨_, _, e, h⟩ := e2.form'; cases e; simpa using h
      have e2' : Own 3 55 (W30.heap.size + 1) wr (.slice AL (smN 119).gates.length cL) (smN 119).gates := by rw [show (smN 119).gates.length = 119 by simp [smN]]; exact e2
      replace HF := Lib.hid ((HF.out.step e3).push (.g AL (smN 119).gates) (e2'.rG (by simp [smN]) fun g hg => by rw [List.eq_of_mem_replicate hg]; simp [gt]) |>.push (.x W30.heap.size #[.int .i64 1, .int .i64 0, .slice AL 119 cL] 24) e1)
      clear e1 e2 e2' e3 e4 HI HI2 hx9
      have hold := olds wr
      go_wp2_with fail
      clear hold 
      generalize hV : World.alloc wr _ = V32
      replace HF := Lib.hid (HF.out.al hV)
      clear hV
      refine (gate_lay _ _ _ _ _).mono ?_
      rintro e W33 ⟨rfl, hb⟩
      replace HF := Lib.hid (HF.out.step hb)
      clear hb
      have hold := olds W33
      go_wp2_with fail
      clear hold 
      generalize hV : World.alloc (World.alloc W33 _) _ = V34
      replace HF := Lib.hid (HF.out.al2 hV)
      clear hV
      replace HF := Lib.hid (HF.out.push (.g (some ⟨W33.heap.size, 0, none⟩) smM.gates) (gatesOf [(gt 13 [0], wr.heap.size)] (HF.out.iX 1) ⟨(HF.out.iX 2), trivial⟩))
      refine (Rule_no 43 (.inr (by decide)) V34).mono ?_
      rintro e W35 ⟨rfl, hb⟩
      replace HF := Lib.hid (HF.out.step hb)
      clear hb
      have hold := olds W35
      go_wp2_with fail
      clear hold 
      refine (Rule_no (-1) (.inl (by decide)) W35).mono ?_
      rintro e W36 ⟨rfl, hb⟩
      replace HF := Lib.hid (HF.out.step hb)
      clear hb
      obtain ⟨k00, k01, k02, k0f, lk0⟩ := HF.out.i3 7
      have hold := olds W36
      go_wp2_with fail
      clear hold k00 k01 k02 k0f lk0
      have hc := Steps_any (some ⟨W24.heap.size, 0, none⟩) 2 smP 43 true W36 (Lib.hid (HT.out.below (HF.out.iB 26))) (HF.out.iG 8) (by decide)
      rw [sm_43] at hc
      refine hc.mono ?_
      clear hc
      rintro e W37 ⟨v, rfl, ho, hb⟩
      obtain ⟨AxW37, cxW37, rfl, _⟩ := ho.form
      replace HF := Lib.hid (HF.out.step hb)
      clear ho hb
      obtain ⟨k00, k01, k02, k0f, lk0⟩ := HF.out.i3 7
      have hold := olds W37
      go_wp2_with fail
      clear hold k00 k01 k02 k0f lk0
      have hc := Steps_any (some ⟨W24.heap.size, 0, none⟩) 2 smP 44 false W37 (Lib.hid (HT.out.below (HF.out.iB 26))) (HF.out.iG 8) (by decide)
      rw [sm_44] at hc
      refine hc.mono ?_
      clear hc
      rintro e W38 ⟨v, rfl, ho, hb⟩
      obtain ⟨AxW38, cxW38, rfl, _⟩ := ho.form
      replace HF := Lib.hid (HF.out.step hb)
      clear ho hb
      have hold := olds W38
      obtain ⟨k0, k1, k2, kf, lk⟩ := HF.out.i3 7
      go_upto_region 20 with fail
      clear hold
      have HK := Lib.hid HF.out
      have hmk := make401
      go_cut [17] (fun ph wx => ph = .int .i64 2 ∧ Below W38.heap.size W38 wx)
      case first =>
        have hwk : W38.heap.size ≤ W38.heap.size := Nat.le_refl _
        refine wp_region_st (by kernel_rfl) (.op 0 (.alt true 1 (.alt true 2 (.op 3 (.op 4 (.op 5 (.op 6 (.alt true 7 (.alt true 8 (.op 9 (.op 10 .fin)) .stop) .stop))))) (.alt false 7 (.alt true 2 (.op 3 (.op 4 (.op 5 (.op 6 (.alt true 8 (.op 9 (.op 10 .fin)) .stop))))) .stop) .stop)) (.alt false 7 (.alt true 1 (.alt true 2 (.op 3 (.op 4 (.op 5 (.op 6 (.alt true 8 (.op 9 (.op 10 .fin)) .stop))))) .stop) .stop) .stop))) (by kernel_rfl) (by kernel_rfl) (by kernel_rfl) ?_
        generalize hV : World.drew W38 = T0
        have hb0 : Below W38.heap.size W38 T0 := by rw [← hV]; exact bl
        clear hV k0 k1 k2 kf lk
        obtain ⟨k0, k1, k2, kf, lk⟩ := (HK.out.step hb0).i3 7
        have hold := olds T0
        (first|refine ST.q ?_|refine ST.m ?_|refine ST.n ?_|refine ST.v1 ?_ ST.stop|refine ST.k1 ?_ ST.stop)
        simp only [Act.put, pA, pB, pC]
        refine ST.v1 ?_ ?_
        · simp only [Act.put, pA, pB, pC]
          generalize hV : World.alloc T0 _ = T1
          have hs : Below T0.heap.size T0 T1 := by rw [← hV]; exact bl
          have hr : RdM T1 (some ⟨T0.heap.size, 0, none⟩) smZ := rd401 (by rw [← hV]; exact blk_alloc _ _ _ rfl)
          have hb1 := hb0.trans (hs.mono hb0.size)
          clear hV hs k0 k1 k2 kf lk hold
          obtain ⟨k0, k1, k2, kf, lk⟩ := (HK.out.step hb1).i3 7
          have hold := olds T1
          refine ST.c1 ?_ ?_
          · have hc := Follow_any (some ⟨W24.heap.size, 0, none⟩) _ 2 401 smP smZ T1 (Lib.hid (HT.out.below ((HK.out.step hb1).iB 26))) ((HK.out.step hb1).iG 8) (by decide) hr
            rw [smZ_len] at hc
            obtain ⟨x, hx⟩ : ∃ x, FollowR smP smZ = x := ⟨_, rfl⟩
            have he : x.1 = 2 := by rw [← hx]; exact sm_follow
            rw [hx] at hc
            clear hx
            obtain ⟨er, cc, ph⟩ := x
            dsimp only at he
            subst he
            refine hc.mono ?_
            clear hc hr
            rintro e T2 ⟨v, rfl, ho, hs⟩
            dsimp only at ho ⊢
            obtain ⟨Av, cv, rfl, _⟩ := ho.form'
            have hb2 := hb1.trans (hs.mono hb1.size)
            clear ho hs k0 k1 k2 kf lk hold
            obtain ⟨k0, k1, k2, kf, lk⟩ := (HK.out.step hb2).i3 7
            have hold := olds T2
            refine ⟨_, rfl, sb, ?_⟩
            simp only [Act.put, pA, pB, pC]
            iterate 4 ((first|refine ST.q ?_|refine ST.m ?_|refine ST.n ?_|refine ST.v1 ?_ ST.stop|refine ST.k1 ?_ ST.stop);simp only [Act.put, pA, pB, pC])
            refine ST.v1 ?_ ST.stop
            simp only [Act.put, pA, pB, pC]
            generalize hV : World.alloc T2 _ = T3
            have hs : Below T2.heap.size T2 T3 := by rw [← hV]; exact bl
            have hq : T3.heap[T2.heap.size]? = some (.cells #[.int .i64 0, .int .i64 0, .slice none 0 0] 24 (0, 0)) := by rw [← hV]; exact blk_alloc _ _ _ rfl
            have h7 := hb2.size
            have hb3 := hb2.trans (hs.mono hb2.size)
            clear hV hs k0 k1 k2 kf lk hold
            obtain ⟨k0, k1, k2, kf, lk⟩ := (HK.out.step hb3).i3 7
            obtain ⟨c0, c1, c2, cf⟩ := cells3 hq
            have hold := olds T3
            iterate 3 ((first|refine ST.q ?_|refine ST.m ?_|refine ST.n ?_|refine ST.v1 ?_ ST.stop|refine ST.k1 ?_ ST.stop);simp only [Act.put, pA, pB, pC])
            simp only [ST]
            go_wp2
            go_meet
            exact ⟨rfl, ((hb3.setCell h7 _).setCell h7 _).setCell h7 _⟩
          refine ST.v1 ?_ ST.stop
          simp only [Act.put, pA, pB, pC]
          generalize hV : World.alloc T1 _ = T2
          have hs : Below T1.heap.size T1 T2 := by rw [← hV]; exact bl
          have hq : T2.heap[T1.heap.size]? = some (.cells #[.int .i64 0, .int .i64 0, .slice none 0 0] 24 (0, 0)) := by rw [← hV]; exact blk_alloc _ _ _ rfl
          have h7 := hb1.size
          replace hr := hr.bM hs
          have hb2 := hb1.trans (hs.mono hb1.size)
          clear hV hs k0 k1 k2 kf lk hold
          obtain ⟨k0, k1, k2, kf, lk⟩ := (HK.out.step hb2).i3 7
          obtain ⟨c0, c1, c2, cf⟩ := cells3 hq
          have hold := olds T2
          refine ST.c1 ?_ ST.stop
          have hc := Follow_any (some ⟨W24.heap.size, 0, none⟩) _ 2 401 smP smZ T2 (Lib.hid (HT.out.below ((HK.out.step hb2).iB 26))) ((HK.out.step hb2).iG 8) (by decide) hr
          rw [smZ_len] at hc
          obtain ⟨x, hx⟩ : ∃ x, FollowR smP smZ = x := ⟨_, rfl⟩
          have he : x.1 = 2 := by rw [← hx]; exact sm_follow
          rw [hx] at hc
          clear hx
          obtain ⟨er, cc, ph⟩ := x
          dsimp only at he
          subst he
          refine hc.mono ?_
          clear hc hr
          rintro e T3 ⟨v, rfl, ho, hs⟩
          dsimp only at ho ⊢
          obtain ⟨Av, cv, rfl, _⟩ := ho.form'
          have hb3 := hb2.trans (hs.mono hb2.size)
          replace hq := blk2 hs hq
          clear c0 c1 c2 cf
          clear ho hs k0 k1 k2 kf lk hold
          obtain ⟨k0, k1, k2, kf, lk⟩ := (HK.out.step hb3).i3 7
          obtain ⟨c0, c1, c2, cf⟩ := cells3 hq
          have hold := olds T3
          refine ⟨_, rfl, sb, ?_⟩
          simp only [Act.put, pA, pB, pC]
          iterate 7 ((first|refine ST.q ?_|refine ST.m ?_|refine ST.n ?_|refine ST.v1 ?_ ST.stop|refine ST.k1 ?_ ST.stop);simp only [Act.put, pA, pB, pC])
          simp only [ST]
          go_wp2
          go_meet
          exact ⟨rfl, ((hb3.setCell h7 _).setCell h7 _).setCell h7 _⟩
        refine ST.v1 ?_ ST.stop
        simp only [Act.put, pA, pB, pC]
        generalize hV : World.alloc T0 _ = T1
        have hs : Below T0.heap.size T0 T1 := by rw [← hV]; exact bl
        have hq : T1.heap[T0.heap.size]? = some (.cells #[.int .i64 0, .int .i64 0, .slice none 0 0] 24 (0, 0)) := by rw [← hV]; exact blk_alloc _ _ _ rfl
        have h7 := hb0.size
        have hb1 := hb0.trans (hs.mono hb0.size)
        clear hV hs k0 k1 k2 kf lk hold
        obtain ⟨k0, k1, k2, kf, lk⟩ := (HK.out.step hb1).i3 7
        obtain ⟨c0, c1, c2, cf⟩ := cells3 hq
        have hold := olds T1
        refine ST.v1 ?_ ST.stop
        simp only [Act.put, pA, pB, pC]
        generalize hV : World.alloc T1 _ = T2
        have hs : Below T1.heap.size T1 T2 := by rw [← hV]; exact bl
        have hr : RdM T2 (some ⟨T1.heap.size, 0, none⟩) smZ := rd401 (by rw [← hV]; exact blk_alloc _ _ _ rfl)
        have hb2 := hb1.trans (hs.mono hb1.size)
        replace hq := blk2 hs hq
        clear c0 c1 c2 cf
        clear hV hs k0 k1 k2 kf lk hold
        obtain ⟨k0, k1, k2, kf, lk⟩ := (HK.out.step hb2).i3 7
        obtain ⟨c0, c1, c2, cf⟩ := cells3 hq
        have hold := olds T2
        refine ST.c1 ?_ ST.stop
        have hc := Follow_any (some ⟨W24.heap.size, 0, none⟩) _ 2 401 smP smZ T2 (Lib.hid (HT.out.below ((HK.out.step hb2).iB 26))) ((HK.out.step hb2).iG 8) (by decide) hr
        rw [smZ_len] at hc
        obtain ⟨x, hx⟩ : ∃ x, FollowR smP smZ = x := ⟨_, rfl⟩
        have he : x.1 = 2 := by rw [← hx]; exact sm_follow
        rw [hx] at hc
        clear hx
        obtain ⟨er, cc, ph⟩ := x
        dsimp only at he
        subst he
        refine hc.mono ?_
        clear hc hr
        rintro e T3 ⟨v, rfl, ho, hs⟩
        dsimp only at ho ⊢
        obtain ⟨Av, cv, rfl, _⟩ := ho.form'
        have hb3 := hb2.trans (hs.mono hb2.size)
        replace hq := blk2 hs hq
        clear c0 c1 c2 cf
        clear ho hs k0 k1 k2 kf lk hold
        obtain ⟨k0, k1, k2, kf, lk⟩ := (HK.out.step hb3).i3 7
        obtain ⟨c0, c1, c2, cf⟩ := cells3 hq
        have hold := olds T3
        refine ⟨_, rfl, sb, ?_⟩
        simp only [Act.put, pA, pB, pC]
        iterate 7 ((first|refine ST.q ?_|refine ST.m ?_|refine ST.n ?_|refine ST.v1 ?_ ST.stop|refine ST.k1 ?_ ST.stop);simp only [Act.put, pA, pB, pC])
        simp only [ST]
        go_wp2
        go_meet
        exact ⟨rfl, ((hb3.setCell h7 _).setCell h7 _).setCell h7 _⟩
      case rest =>
      obtain ⟨rfl, hb⟩ := hcut
      rename World => wz
      replace HF := Lib.hid (HK.out.step hb)
      clear hb HK k0 k1 k2 kf lk hmk
      obtain ⟨k00, k01, k02, k0f, lk0⟩ := HF.out.i3 7
      have hold := olds wz
      go_upto_region 21 with fail
      refine wp_region_st (by kernel_rfl) (.op 0 (.alt true 1 (.alt true 2 (.op 3 (.op 4 (.op 5 (.op 6 (.op 7 .fin))))) .stop) .stop)) (by kernel_rfl) (by kernel_rfl) (by kernel_rfl) ?_
      (first|refine ST.q ?_|refine ST.m ?_|refine ST.n ?_|refine ST.v1 ?_ ST.stop|refine ST.k1 ?_ ST.stop)
      simp only [Act.put, pA, pB, pC]
      refine ST.c1 ?_ ST.stop
      refine (on_lay _ _ _ _ _).mono ?_
      rintro e W39 ⟨rfl, hb⟩
      have hb' : Below wz.heap.size wz W39 := Below.trans bl hb
      replace HF := Lib.hid (HF.out.step hb')
      clear hold hb hb' k00 k01 k02 k0f lk0
      obtain ⟨k00, k01, k02, k0f, lk0⟩ := HF.out.i3 7
      have hold := olds W39
      refine ⟨_, rfl, sb, ?_⟩
      simp only [Act.put, pA, pB, pC]
      refine ST.c1 ?_ ST.stop
      have hc := rCheck_any (some ⟨W24.heap.size, 0, none⟩) none none 2 0 0 smP (smE 1) [] W39 (Lib.hid (HT.out.below (HF.out.iB 26))) (HF.out.iG 8) (by decide) (Rd.nil _ _ _ _) (Rd.nil _ _ _ _)
      rw [sm_check] at hc
      refine hc.mono ?_
      clear hc
      rintro e W40 ⟨rfl, hb⟩
      replace HF := Lib.hid (HF.out.step hb)
      clear hold hb k00 k01 k02 k0f lk0
      obtain ⟨k00, k01, k02, k0f, lk0⟩ := HF.out.i3 7
      have hold := olds W40
      dsimp only
      refine ⟨_, rfl, sb, ?_⟩
      simp only [Act.put, pA, pB, pC]
      iterate 5 ((first|refine ST.q ?_|refine ST.m ?_|refine ST.n ?_|refine ST.v1 ?_ ST.stop|refine ST.k1 ?_ ST.stop);simp only [Act.put, pA, pB, pC])
      simp only [ST]
      clear hold k00 k01 k02 k0f lk0
      obtain ⟨k00, k01, k02, k0f, lk0⟩ := HF.out.i3 6
      have hold := olds W40
      go_wp2_with fail
      clear hold k00 k01 k02 k0f lk0
      have hc := Search_any none none 0 0 (smE 4) (smE 4) 1 W40 (Lib.hid (HT.out.below (HF.out.iB 26))) (Rd.nil _ _ _ _) (by decide) (Rd.nil _ _ _ _)
      rw [sm_search1] at hc
      refine hc.mono ?_
      clear hc
      rintro e W41 ⟨v, rfl, ho, hb⟩
      obtain ⟨AxW41, cxW41, rfl, _⟩ := ho.form
      replace HF := Lib.hid (HF.out.step hb)
      clear ho hb
      obtain ⟨k00, k01, k02, k0f, lk0⟩ := HF.out.i3 7
      have hold := olds W41
      go_wp2_with fail
      clear hold k00 k01 k02 k0f lk0
      have hc := Search_any (some ⟨W24.heap.size, 0, none⟩) (some ⟨W24.heap.size, 0, none⟩) 2 2 smP smP 3 W41 (Lib.hid (HT.out.below (HF.out.iB 26))) (HF.out.iG 8) (by decide) (HF.out.iG 8)
      rw [sm_search3] at hc
      refine hc.mono ?_
      clear hc
      rintro e W42 ⟨v, rfl, ho, hb⟩
      obtain ⟨AxW42, cxW42, rfl, _⟩ := ho.form
      replace HF := Lib.hid (HF.out.step hb)
      clear ho hb
      obtain ⟨k00, k01, k02, k0f, lk0⟩ := HF.out.i3 7
      have hold := olds W42
      go_upto_region 24 with fail
      refine wp_region_st (by kernel_rfl) (.op 0 (.alt true 1 (.alt true 2 (.op 3 (.op 4 (.op 5 (.op 6 (.op 7 .fin))))) .stop) .stop)) (by kernel_rfl) (by kernel_rfl) (by kernel_rfl) ?_
      (first|refine ST.q ?_|refine ST.m ?_|refine ST.n ?_|refine ST.v1 ?_ ST.stop|refine ST.k1 ?_ ST.stop)
      simp only [Act.put, pA, pB, pC]
      refine ST.c1 ?_ ST.stop
      refine (on_lay _ _ _ _ _).mono ?_
      rintro e W43 ⟨rfl, hb⟩
      have hb' : Below W42.heap.size W42 W43 := Below.trans bl hb
      replace HF := Lib.hid (HF.out.step hb')
      clear hold hb hb' k00 k01 k02 k0f lk0
      obtain ⟨k00, k01, k02, k0f, lk0⟩ := HF.out.i3 7
      have hold := olds W43
      refine ⟨_, rfl, sb, ?_⟩
      simp only [Act.put, pA, pB, pC]
      refine ST.c1 ?_ ST.stop
      have hc := Search_any (some ⟨W24.heap.size, 0, none⟩) none 2 0 smP (smE 1) 1 W43 (Lib.hid (HT.out.below (HF.out.iB 26))) (HF.out.iG 8) (by decide) (Rd.nil _ _ _ _)
      rw [sm_search6] at hc
      refine hc.mono ?_
      clear hc
      rintro e W44 ⟨v, rfl, ho, hb⟩
      obtain ⟨AxW44, cxW44, rfl, _⟩ := ho.form
      replace HF := Lib.hid (HF.out.step hb)
      clear hold ho hb k00 k01 k02 k0f lk0
      obtain ⟨k00, k01, k02, k0f, lk0⟩ := HF.out.i3 7
      have hold := olds W44
      dsimp only
      refine ⟨_, rfl, sb, ?_⟩
      simp only [Act.put, pA, pB, pC]
      iterate 5 ((first|refine ST.q ?_|refine ST.m ?_|refine ST.n ?_|refine ST.v1 ?_ ST.stop|refine ST.k1 ?_ ST.stop);simp only [Act.put, pA, pB, pC])
      simp only [ST]
      clear hold k00 k01 k02 k0f lk0
      obtain ⟨k00, k01, k02, k0f, lk0⟩ := HF.out.i3 7
      have hold := olds W44
      go_upto_region 25 with fail
      refine wp_region_st (by kernel_rfl) (.op 0 (.alt true 1 (.alt true 2 (.op 3 (.op 4 (.op 5 (.op 6 (.op 7 .fin))))) .stop) .stop)) (by kernel_rfl) (by kernel_rfl) (by kernel_rfl) ?_
      (first|refine ST.q ?_|refine ST.m ?_|refine ST.n ?_|refine ST.v1 ?_ ST.stop|refine ST.k1 ?_ ST.stop)
      simp only [Act.put, pA, pB, pC]
      refine ST.c1 ?_ ST.stop
      refine (on_lay _ _ _ _ _).mono ?_
      rintro e W45 ⟨rfl, hb⟩
      have hb' : Below W44.heap.size W44 W45 := Below.trans bl hb
      replace HF := Lib.hid (HF.out.step hb')
      clear hold hb hb' k00 k01 k02 k0f lk0
      obtain ⟨k00, k01, k02, k0f, lk0⟩ := HF.out.i3 7
      have hold := olds W45
      refine ⟨_, rfl, sb, ?_⟩
      simp only [Act.put, pA, pB, pC]
      refine ST.c1 ?_ ST.stop
      have hc := Search_any (some ⟨W24.heap.size, 0, none⟩) none 2 0 smP (smE 2) 1 W45 (Lib.hid (HT.out.below (HF.out.iB 26))) (HF.out.iG 8) (by decide) (Rd.nil _ _ _ _)
      rw [sm_search7] at hc
      refine hc.mono ?_
      clear hc
      rintro e W46 ⟨v, rfl, ho, hb⟩
      obtain ⟨AxW46, cxW46, rfl, _⟩ := ho.form
      replace HF := Lib.hid (HF.out.step hb)
      clear hold ho hb k00 k01 k02 k0f lk0
      obtain ⟨k00, k01, k02, k0f, lk0⟩ := HF.out.i3 7
      have hold := olds W46
      dsimp only
      refine ⟨_, rfl, sb, ?_⟩
      simp only [Act.put, pA, pB, pC]
      iterate 5 ((first|refine ST.q ?_|refine ST.m ?_|refine ST.n ?_|refine ST.v1 ?_ ST.stop|refine ST.k1 ?_ ST.stop);simp only [Act.put, pA, pB, pC])
      simp only [ST]
      clear hold k00 k01 k02 k0f lk0
      obtain ⟨k00, k01, k02, k0f, lk0⟩ := HF.out.i3 1
      have hold := olds W46
      go_wp2_with fail
      clear hold k00 k01 k02 k0f lk0
      have hc := Shorten_any (some ⟨W33.heap.size, 0, none⟩) 1 smM W46 (Lib.hid (HT.out.below (HF.out.iB 26))) (HF.out.iG 0) (by decide)
      rw [sm_shortM] at hc
      refine hc.mono ?_
      clear hc
      rintro e W47 ⟨v, rfl, ho, hb⟩
      obtain ⟨AxW47, cxW47, rfl, _⟩ := ho.form
      replace HF := Lib.hid (HF.out.step hb)
      clear ho hb
      as_aux_lemma =>
      have hold := olds W47
      go_wp2_with fail
      clear hold 
      generalize hV : World.alloc W47 _ = V48
      replace HF := Lib.hid (HF.out.al hV)
      clear hV
      have hc := try_any none (some ⟨W47.heap.size, 0, none⟩) 0 1 1 zeroC 0 0 false [0] V48 (Lib.hid (HT.out.below (HF.out.iB 27))) (Rd.nil _ _ _ _) (by decide) (RdI.blk [0] (HF.out.iX 0) rfl (by decide)) rfl
      rw [sm_t0] at hc
      refine hc.mono ?_
      clear hc
      rintro e W49 ⟨rfl, hb⟩
      replace HF := Lib.hid (HF.out.step hb)
      clear hb
      obtain ⟨k00, k01, k02, k0f, lk0⟩ := HF.out.i3 2
      have hold := olds W49
      go_wp2_with fail
      clear hold k00 k01 k02 k0f lk0
      generalize hV : World.alloc W49 _ = V50
      replace HF := Lib.hid (HF.out.al hV)
      clear hV
      have hc := try_any (some ⟨W33.heap.size, 0, none⟩) (some ⟨W49.heap.size, 0, none⟩) 1 1 1 smM 0 0 true [0] V50 (Lib.hid (HT.out.below (HF.out.iB 28))) (HF.out.iG 2) (by decide) (RdI.blk [0] (HF.out.iX 0) rfl (by decide)) rfl
      rw [sm_t1] at hc
      refine hc.mono ?_
      clear hc
      rintro e W51 ⟨rfl, hb⟩
      replace HF := Lib.hid (HF.out.step hb)
      clear hb
      obtain ⟨k00, k01, k02, k0f, lk0⟩ := HF.out.i3 9
      have hold := olds W51
      go_wp2_with fail
      clear hold k00 k01 k02 k0f lk0
      have hc := try_any (some ⟨W24.heap.size, 0, none⟩) none 2 0 0 smP 44 0 false [] W51 (Lib.hid (HT.out.below (HF.out.iB 28))) (HF.out.iG 10) (by decide) (Rd.nil _ _ _ _) rfl
      rw [sm_t2] at hc
      refine hc.mono ?_
      clear hc
      rintro e W52 ⟨rfl, hb⟩
      replace HF := Lib.hid (HF.out.step hb)
      clear hb
      obtain ⟨k00, k01, k02, k0f, lk0⟩ := HF.out.i3 9
      have hold := olds W52
      go_wp2_with fail
      clear hold k00 k01 k02 k0f lk0
      generalize hV : World.alloc W52 _ = V53
      replace HF := Lib.hid (HF.out.al hV)
      clear hV
      have hc := try_any (some ⟨W24.heap.size, 0, none⟩) (some ⟨W52.heap.size, 0, none⟩) 2 1 1 smP 0 3 true [0] V53 (Lib.hid (HT.out.below (HF.out.iB 29))) (HF.out.iG 11) (by decide) (RdI.blk [0] (HF.out.iX 0) rfl (by decide)) rfl
      rw [sm_t3] at hc
      refine hc.mono ?_
      clear hc
      rintro e W54 ⟨rfl, hb⟩
      replace HF := Lib.hid (HF.out.step hb)
      clear hb
      obtain ⟨k00, k01, k02, k0f, lk0⟩ := HF.out.i3 10
      have hold := olds W54
      go_wp2_with fail
      clear hold k00 k01 k02 k0f lk0
      have hc := try_any (some ⟨W24.heap.size, 0, none⟩) none 2 0 0 smP 0 0 true [] W54 (Lib.hid (HT.out.below (HF.out.iB 29))) (HF.out.iG 11) (by decide) (Rd.nil _ _ _ _) rfl
      rw [sm_t4] at hc
      refine hc.mono ?_
      clear hc
      rintro e W55 ⟨rfl, hb⟩
      replace HF := Lib.hid (HF.out.step hb)
      clear hb
      obtain ⟨k00, k01, k02, k0f, lk0⟩ := HF.out.i3 10
      have hold := olds W55
      go_wp2_with fail
      clear hold k00 k01 k02 k0f lk0
      generalize hV : World.alloc W55 _ = V56
      replace HF := Lib.hid (HF.out.al hV)
      clear hV
      have hc := try_any (some ⟨W24.heap.size, 0, none⟩) (some ⟨W55.heap.size, 0, none⟩) 2 1 1 smP 0 0 true [1] V56 (Lib.hid (HT.out.below (HF.out.iB 30))) (HF.out.iG 12) (by decide) (RdI.blk [1] (HF.out.iX 0) rfl (by decide)) rfl
      rw [sm_t5] at hc
      refine hc.mono ?_
      clear hc
      rintro e W57 ⟨rfl, hb⟩
      replace HF := Lib.hid (HF.out.step hb)
      clear hb
      have hold := olds W57
      go_wp2_with fail
      clear hold 
      refine (on_lay _ _ _ _ _).mono ?_
      rintro e W58 ⟨rfl, hb⟩
      replace HF := Lib.hid (HF.out.step hb)
      clear hb
      have hold := olds W58
      go_wp2_with fail
      clear hold 
      generalize hV : World.alloc W58 _ = V59
      replace HF := Lib.hid (HF.out.al hV)
      clear hV
      have hc := try_any none (some ⟨W58.heap.size, 0, none⟩) 0 2 2 (smE 2) 8 0 true [1, 1] V59 (Lib.hid (HT.out.below (HF.out.iB 31))) (Rd.nil _ _ _ _) (by decide) (RdI.blk [1, 1] (HF.out.iX 0) rfl (by decide)) rfl
      rw [sm_t6] at hc
      refine hc.mono ?_
      clear hc
      rintro e W60 ⟨rfl, hb⟩
      replace HF := Lib.hid (HF.out.step hb)
      clear hb
      obtain ⟨k00, k01, k02, k0f, lk0⟩ := HF.out.i3 12
      have hold := olds W60
      go_wp2_with fail
      clear hold k00 k01 k02 k0f lk0
      have hc := try_any (some ⟨W24.heap.size, 0, none⟩) none 2 0 0 smP 43 0 true [] W60 (Lib.hid (HT.out.below (HF.out.iB 31))) (HF.out.iG 13) (by decide) (Rd.nil _ _ _ _) rfl
      rw [sm_t7] at hc
      refine hc.mono ?_
      clear hc
      rintro e W61 ⟨rfl, hb⟩
      replace HF := Lib.hid (HF.out.step hb)
      clear hb
      obtain ⟨k00, k01, k02, k0f, lk0⟩ := HF.out.i3 12
      have hold := olds W61
      go_wp2_with fail
      clear hold k00 k01 k02 k0f lk0
      generalize hV : World.alloc W61 _ = V62
      replace HF := Lib.hid (HF.out.al hV)
      clear hV
      have hc := try_any (some ⟨W24.heap.size, 0, none⟩) (some ⟨W61.heap.size, 0, none⟩) 2 1 1 smP 43 0 false [0] V62 (Lib.hid (HT.out.below (HF.out.iB 32))) (HF.out.iG 14) (by decide) (RdI.blk [0] (HF.out.iX 0) rfl (by decide)) rfl
      rw [sm_t8] at hc
      refine hc.mono ?_
      clear hc
      rintro e W63 ⟨rfl, hb⟩
      replace HF := Lib.hid (HF.out.step hb)
      clear hb
      obtain ⟨k00, k01, k02, k0f, lk0⟩ := HF.out.i3 13
      have hold := olds W63
      go_wp2_with fail
      clear hold k00 k01 k02 k0f lk0
      have hc := try_any (some ⟨W24.heap.size, 0, none⟩) none 2 0 0 smP 43 0 false [] W63 (Lib.hid (HT.out.below (HF.out.iB 32))) (HF.out.iG 14) (by decide) (Rd.nil _ _ _ _) rfl
      rw [sm_t9] at hc
      refine hc.mono ?_
      clear hc
      rintro e W64 ⟨rfl, hb⟩
      replace HF := Lib.hid (HF.out.step hb)
      clear hb
      obtain ⟨k00, k01, k02, k0f, lk0⟩ := HF.out.i3 13
      have hold := olds W64
      go_wp2_with fail
      clear hold k00 k01 k02 k0f lk0
      have hc := try_any (some ⟨W24.heap.size, 0, none⟩) none 2 0 0 smP 43 1 false [] W64 (Lib.hid (HT.out.below (HF.out.iB 32))) (HF.out.iG 14) (by decide) (Rd.nil _ _ _ _) rfl
      rw [sm_t10] at hc
      refine hc.mono ?_
      clear hc
      rintro e W65 ⟨rfl, hb⟩
      replace HF := Lib.hid (HF.out.step hb)
      clear hb
      obtain ⟨k00, k01, k02, k0f, lk0⟩ := HF.out.i3 13
      have hold := olds W65
      go_wp2_with fail
      clear hold k00 k01 k02 k0f lk0
      generalize hV : World.alloc W65 _ = V66
      replace HF := Lib.hid (HF.out.al hV)
      clear hV
      have hc := try_any (some ⟨W24.heap.size, 0, none⟩) (some ⟨W65.heap.size, 0, none⟩) 2 1 1 smP 26 0 true [0] V66 (Lib.hid (HT.out.below (HF.out.iB 33))) (HF.out.iG 15) (by decide) (RdI.blk [0] (HF.out.iX 0) rfl (by decide)) rfl
      rw [sm_t11] at hc
      refine hc.mono ?_
      clear hc
      rintro e W67 ⟨rfl, hb⟩
      replace HF := Lib.hid (HF.out.step hb)
      clear hb
      obtain ⟨k00, k01, k02, k0f, lk0⟩ := HF.out.i3 11
      have hold := olds W67
      go_wp2_with fail
      clear hold k00 k01 k02 k0f lk0
      generalize hV : World.alloc W67 _ = V68
      replace HF := Lib.hid (HF.out.al hV)
      clear hV
      have hc := try_any AL (some ⟨W67.heap.size, 0, none⟩) cL 1 1 (smN 119) 0 0 true [0] V68 (Lib.hid (HT.out.below (HF.out.iB 34))) (HF.out.iG 13) (by simpa [smN] using hcL) (RdI.blk [0] (HF.out.iX 0) rfl (by decide)) rfl
      rw [sm_t12] at hc
      refine hc.mono ?_
      clear hc
      rintro e W69 ⟨rfl, hb⟩
      replace HF := Lib.hid (HF.out.step hb)
      clear hb
      have hold := olds W69
      go_wp2_with fail
      clear hold 
      refine (awake_any W69 (Lib.hid (HT.out.below (HF.out.iB 34)))).mono ?_
      rintro e W70 ⟨rfl, hb⟩
      replace HF := Lib.hid (HF.out.step hb)
      clear hb
      go_wp2
      go_ret
      exact ⟨rfl, HF.out.iB 34⟩
end Go.Proofs.YtfommmijojfdbaaGreatDoor
