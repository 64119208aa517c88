/- The law of given rules is walked. -/
import Derived.Test.YtfommmijojfdbaaGreatDoorAW
import Derived.Test.YtfommmijojfdbaaGreatDoorGV
import Derived.Test.YtfommmijojfdbaaGreatDoorSC
set_option linter.all false
namespace Go.Proofs.YtfommmijojfdbaaGreatDoor
open Go.RowKit

theorem RdM.two {b d d' : Nat} {W : World} {B D : Option Addr} {s t : M} {T : TypeId} (hb : W.heap[b]? = some (.cells #[.int .i64 s.rule, .int .i64 s.at_, .bool s.back, .slice B s.wires.length d, .int .i64 t.rule, .int .i64 t.at_, .bool t.back, .slice D t.wires.length d'] T (0, 0))) (hd : s.wires.length ≤ d) (h : RdI W B s.wires) (hd' : t.wires.length ≤ d') (h' : RdI W D t.wires) : RdM W (some ⟨b, 0, none⟩) [s, t] := by
  refine Rd.blk [[.int .i64 s.rule, .int .i64 s.at_, .bool s.back, .slice B s.wires.length d], [.int .i64 t.rule, .int .i64 t.at_, .bool t.back, .slice D t.wires.length d']] hb rfl (by simp) rfl (fun cs h => by
    rcases List.mem_cons.1 h with rfl | h
    · rfl
    · rw [List.mem_singleton.1 h]; rfl) fun k x cs hx hc => ?_
  rcases k with _ | _ | k
  · cases hx; cases hc; exact ⟨_, _, rfl, hd, h⟩
  · cases hx; cases hc; exact ⟨_, _, rfl, hd', h'⟩
  · simp at hc
set_option maxRecDepth 1000000 in
set_option maxHeartbeats 16000000 in
theorem given_law (i : Int) (A B : Option Addr) (c d : Nat) (s t : M) (w : World) (HT : Hid (Laid w)) (h : RdI w A s.wires) (hc : s.wires.length ≤ c) (h' : RdI w B t.wires) (hd : t.wires.length ≤ d) :
    Calls Tryz.prog 9 #[.int .i64 i, .agg #[.int .i64 s.rule, .int .i64 s.at_, .bool s.back, .slice A s.wires.length c], .agg #[.int .i64 t.rule, .int .i64 t.at_, .bool t.back, .slice B t.wires.length d]] w fun e w' => e = .returned (.bool true) ∧ Below w.heap.size w w' := by
  have HF := Lib.hid ((AllF.nil w).push (.bel w) (Below.refl _ _))
  have HI := Lib.hid (And.intro h (And.intro h' (And.intro hc hd)))
  clear h h' hc hd
  go_enter Tryz.func9, Tryz.ntmps9
  go_upto_region 1 with fail
  generalize hV : World.alloc (World.alloc w _) _ = W1
  replace HF := Lib.hid (HF.out.al2 hV)
  clear hV
  obtain ⟨a0, a1, a2, a3, af, la⟩ := HF.out.i4 1
  obtain ⟨b0, b1, b2, b3, bf, lb⟩ := HF.out.i4 0
  have hold := olds W1
  go_wp2_with fail
  generalize hV : World.alloc W1 _ = W2
  replace HF := Lib.hid (HF.out.al hV)
  clear hV
  clear a0 a1 a2 a3 af la b0 b1 b2 b3 bf lb hold
  obtain ⟨q, hq⟩ : ∃ q, greatM [s, t] = q := ⟨_, rfl⟩
  have hg := great_any (some ⟨W1.heap.size, 0, none⟩) 2 2 [s, t] W2 (RdM.two (HF.out.iX 0) HI.out.2.2.1 (HI.out.1.bI (HF.out.iB 3)) HI.out.2.2.2 (HI.out.2.1.bI (HF.out.iB 3))) rfl
  rw [hq] at hg
  refine hg.mono ?_
  clear hg
  rintro e w3 ⟨rfl, hb⟩
  replace HF := Lib.hid (HF.out.step hb)
  clear hb hq
  obtain ⟨a0, a1, a2, a3, af, la⟩ := HF.out.i4 2
  obtain ⟨b0, b1, b2, b3, bf, lb⟩ := HF.out.i4 1
  have hold := olds w3
  cases q with
  | true =>
    go_wp2_with fail
    refine (awake_any _ (Lib.hid (HT.out.below (HF.out.iB 3)))).mono ?_
    rintro e w99 ⟨rfl, hb⟩
    replace HF := Lib.hid (HF.out.step hb)
    clear hb
    go_wp2
    go_ret
    exact ⟨rfl, HF.out.iB 3⟩
  | false =>
  obtain ⟨l, r, ph, er, hl, hr, hP, hQ⟩ := rule_both i
  have HL := Lib.hid (And.intro hl hr)
  have HP := Lib.hid hP
  have hc := hQ w3
  clear hl hr hP hQ
  go_wp2_with fail
  refine hc.mono ?_
  clear hc
  rintro e w4 ⟨A2, c2, B2, d2, lo, m, n, rfl, ho1, ho2, h1, h2, h3, h4, hb⟩
  replace HF := Lib.hid ((HF.out.step hb).push (.g A2 l.gates) (ho1.own.rG HL.out.1.1 HL.out.1.2) |>.push (.g B2 r.gates) (ho2.own.rG HL.out.2.1 HL.out.2.2))
  clear ho1 ho2 h1 h2 h3 h4 hb lo m n
  clear a0 a1 a2 a3 af la b0 b1 b2 b3 bf lb hold
  obtain ⟨a0, a1, a2, a3, af, la⟩ := HF.out.i4 4
  obtain ⟨b0, b1, b2, b3, bf, lb⟩ := HF.out.i4 3
  have hold := olds w4
  go_upto_region 4 with fail
  generalize hV : World.alloc (World.alloc w4 _) _ = W5
  replace HF := Lib.hid (HF.out.al2 hV)
  clear hV
  clear a0 a1 a2 a3 af la b0 b1 b2 b3 bf lb hold
  go_wp2_with fail
  go_loopw [27] (fun k wr => ∃ x : Nat, x ≤ 2 ∧ k = .int .i64 x ∧ Hid (AllF wr [.x (w4.heap.size + 1) #[.int .i64 r.wires, .int .i64 r.bits, .slice B2 r.gates.length d2] 24, .x w4.heap.size #[.int .i64 l.wires, .int .i64 l.bits, .slice A2 l.gates.length c2] 24, .g B2 r.gates, .g A2 l.gates, .x W1.heap.size #[.int .i64 s.rule, .int .i64 s.at_, .bool s.back, .slice A s.wires.length c, .int .i64 t.rule, .int .i64 t.at_, .bool t.back, .slice B t.wires.length d] 27, .x (w.heap.size + 1) #[.int .i64 t.rule, .int .i64 t.at_, .bool t.back, .slice B t.wires.length d] 27, .x w.heap.size #[.int .i64 s.rule, .int .i64 s.at_, .bool s.back, .slice A s.wires.length c] 27, .bel w])) (fun k _ => 2 - (intOf k).toNat)
  case atStart => exact ⟨0, by omega, rfl, HF⟩
  case round =>
    clear HF
    obtain ⟨x, hx, rfl, HF⟩ := hrel
    rename World => wr
    by_cases h2 : x < 2
    · have h2' : (x : Int) < 2 := by omega
      have hph : (ph != ph) = false := by simp
      have hc := HP.out wr (Lib.hid (HT.out.below (HF.out.iB 7)))
      go_wp2_with fail
      refine hc.mono ?_
      clear hc
      rintro e w6 ⟨A5, c5, A6, c6, lo, m, n, rfl, ho1, ho2, h1, h3, h4, h5, hb⟩
      go_upto_region 7 with fail
      generalize hV : World.alloc (World.alloc w6 _) _ = W7
      have q0 : W7.heap[w6.heap.size]? = some (.cells #[.int .i64 l.wires, .int .i64 l.bits, .slice A5 l.gates.length c5] 24 (0, 0)) := by rw [← hV]; exact alloc_old (blk_alloc _ _ _ rfl)
      have q1 : W7.heap[w6.heap.size + 1]? = some (.cells #[.int .i64 r.wires, .int .i64 r.bits, .slice A6 r.gates.length c6] 24 (0, 0)) := by rw [← hV]; exact blk_alloc _ _ _ (by simp)
      have hb67 : Below w6.heap.size w6 W7 := by rw [← hV]; exact bl
      clear hV
      have HO := Lib.hid (And.intro (ho1.below (hb67.mono (by omega))) (And.intro (ho2.below hb67) (And.intro q1 (hb.trans (hb67.mono hb.size)))))
      have HF7 := Lib.hid (HF.out.step HO.out.2.2.2)
      have hz := hb.size
      have hz7 := hb67.size
      have l0 := blk_lt q0
      have l1 := blk_lt q1
      obtain ⟨y0, y1, y2, yf⟩ := cells3 q0
      obtain ⟨z0, z1, z2, zf⟩ := cells3 q1
      obtain ⟨u0, u1, u2, uf, lu⟩ := HF7.out.i3 1
      obtain ⟨v0, v1, v2, vf, lv⟩ := HF7.out.i3 0
      clear ho1 ho2 hb hb67 q0 q1
      have hc := drawn_in lo m A5 A2 c5 c2 l l er er W7 HO.out.1.spo (HO.out.1.own.rG HL.out.1.1 HL.out.1.2) HL.out.1.1 (HF7.out.iG 3) (by omega)
      rw [decide_eq_true rfl, decide_eq_true rfl] at hc
      go_wp2_with fail
      refine hc.mono ?_
      clear hc y0 y1 y2 yf z0 z1 z2 zf u0 u1 u2 uf lu v0 v1 v2 vf lv
      rintro e w8 ⟨rfl, hk8⟩
      have q1 := (hk8.2 _ (by omega) (by omega)).trans HO.out.2.2.1
      have HO2 := Lib.hid (HO.out.2.1.kept fun k hk hl => hk8.2 k (by omega) (by omega))
      have HB8 := Lib.hid (HO.out.2.2.2.trans (hk8.1.mono (by omega)))
      have HF8 := Lib.hid (HF.out.step HB8.out)
      have hz8 := hk8.1.size
      obtain ⟨z0, z1, z2, zf⟩ := cells3 q1
      obtain ⟨v0, v1, v2, vf, lv⟩ := HF8.out.i3 0
      clear hk8 q1
      have hc := drawn_in n w6.heap.size A6 B2 c6 d2 r r er er w8 HO2.out.spo (HO2.out.own.rG HL.out.2.1 HL.out.2.2) HL.out.2.1 (HF8.out.iG 2) (by omega)
      rw [decide_eq_true rfl, decide_eq_true rfl] at hc
      go_wp2_with fail
      refine hc.mono ?_
      clear hc z0 z1 z2 zf v0 v1 v2 vf lv
      rintro e w9 ⟨rfl, hk9⟩
      replace HF := Lib.hid (HF.out.step (HB8.out.trans (hk9.1.mono (by omega))))
      clear hk9
      go_wp2
      go_roundw
      case rel => exact ⟨x + 1, by omega, by go_num, HF⟩
      case measure => simp [intOf]; omega
    · have h2' : ¬ (x : Int) < 2 := by omega
      obtain ⟨q, hq⟩ : ∃ q, lessM s t = q := ⟨_, rfl⟩
      obtain ⟨a0, a1, a2, a3, af, la⟩ := HF.out.i4 6
      obtain ⟨b0, b1, b2, b3, bf, lb⟩ := HF.out.i4 5
      have hold := olds wr
      go_upto_region 10 with fail
      refine wp_region_st (by kernel_rfl) (.op 0 (.op 1 (.op 3 (.op 4 (.alt true 2 (.alt true 5 (.op 6 (.op 7 (.alt true 8 (.op 9 (.op 10 .fin)) .stop))) .stop) .stop))))) (by kernel_rfl) (by kernel_rfl) (by kernel_rfl) ?_
      generalize hV : World.drew wr = V0
      replace HF := Lib.hid (HF.out.dr hV)
      clear hV
      clear a0 a1 a2 a3 af la b0 b1 b2 b3 bf lb hold
      obtain ⟨a0, a1, a2, a3, af, la⟩ := HF.out.i4 6
      obtain ⟨b0, b1, b2, b3, bf, lb⟩ := HF.out.i4 5
      have hold := olds V0
      iterate 4 ((first|refine ST.qg ?_|refine ST.mg ?_|refine ST.ng ?_|refine ST.v1 ?_ ST.stop|refine ST.k1 ?_ ST.stop);simp only [Act.put, pA, pB, pC])
      refine ST.c1 ?_ ST.stop
      have hc := Less_any s t A B c d V0 (HI.out.1.bI (HF.out.iB 7)) (HI.out.2.1.bI (HF.out.iB 7))
      rw [mless_eq, hq] at hc
      refine hc.mono ?_
      clear hc
      rintro e V1 ⟨rfl, hb⟩
      replace HF := Lib.hid (HF.out.step hb)
      clear hb
      clear a0 a1 a2 a3 af la b0 b1 b2 b3 bf lb hold
      obtain ⟨a0, a1, a2, a3, af, la⟩ := HF.out.i4 6
      obtain ⟨b0, b1, b2, b3, bf, lb⟩ := HF.out.i4 5
      have hold := olds V1
      refine ⟨_, rfl, sb, ?_⟩
      simp only [Act.put, pA, pB, pC]
      refine ST.c1 ?_ ST.stop
      have hc := rLess_any s t A B c d V1 (HI.out.1.bI (HF.out.iB 7)) (HI.out.2.1.bI (HF.out.iB 7))
      rw [hq] at hc
      refine hc.mono ?_
      clear hc
      rintro e V2 ⟨rfl, hb⟩
      replace HF := Lib.hid (HF.out.step hb)
      clear hb
      clear a0 a1 a2 a3 af la b0 b1 b2 b3 bf lb hold
      obtain ⟨a0, a1, a2, a3, af, la⟩ := HF.out.i4 6
      obtain ⟨b0, b1, b2, b3, bf, lb⟩ := HF.out.i4 5
      have hold := olds V2
      refine ⟨_, rfl, sb, ?_⟩
      simp only [Act.put, pA, pB, pC]
      iterate 2 ((first|refine ST.qg ?_|refine ST.mg ?_|refine ST.ng ?_|refine ST.v1 ?_ ST.stop|refine ST.k1 ?_ ST.stop);simp only [Act.put, pA, pB, pC])
      refine ST.c1 ?_ ST.stop
      refine (awake_any _ (Lib.hid (HT.out.below (HF.out.iB 7)))).mono ?_
      rintro e V3 ⟨rfl, hb⟩
      replace HF := Lib.hid (HF.out.step hb)
      clear hb
      clear a0 a1 a2 a3 af la b0 b1 b2 b3 bf lb hold
      obtain ⟨a0, a1, a2, a3, af, la⟩ := HF.out.i4 6
      obtain ⟨b0, b1, b2, b3, bf, lb⟩ := HF.out.i4 5
      have hold := olds V3
      refine ⟨_, rfl, sb, ?_⟩
      simp only [Act.put, pA, pB, pC]
      iterate 2 ((first|refine ST.qg ?_|refine ST.mg ?_|refine ST.ng ?_|refine ST.v1 ?_ ST.stop|refine ST.k1 ?_ ST.stop);simp only [Act.put, pA, pB, pC])
      simp only [ST]
      go_wp2
      go_ret
      exact ⟨rfl, HF.out.iB 7⟩
end Go.Proofs.YtfommmijojfdbaaGreatDoor
