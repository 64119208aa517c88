/- Part 35 of the proof that 'spoondriftlaw19.RulesApplies' holds for every input; it has no condition beyond the statement's own. -/
import Derived.Test.YtfommmijojfdbaaGreatDoorZ33
import Derived.Laws.EntriesVeiled
set_option linter.all false
namespace Go.Proofs.YtfommmijojfdbaaGreatDoor
open Go.RowKit Go.Shelf
attribute [local go_sem] Oper.semAt_some
theorem eq_bound (b0 b1 b2 : Int) (w : World) : (binOp .eql 157 (.agg #[.int .i64 b0, .int .i64 b1, .int .i64 b2]) (.agg #[.int .i64 (-1), .int .i64 (-1), .int .i64 (-1)])).run Tryz.prog w = .ok (.bool (decide ([b0, b1, b2] = unb))) w := by
  have u3 := Tryz.underlying3
  have a3 : ∀ w, (isAgg 3).run Tryz.prog w = .ok false w := fun _ => by kernel_rfl
  have z3 : ∀ w, (sizeOf 3).run Tryz.prog w = .ok 1 w := fun _ => by kernel_rfl
  have hu : Tryz.prog.underlying 157 = some (.array 3 3) := by kernel_rfl
  rw [run_eql_struct, show (10000 : Nat) = 9999 + 1 from rfl, Op.equalIn]
  simp only [Sem.run_bind, run_underlying hu, Result.andThen_ok]
  simp only [Std.Legacy.Range.forIn_eq_forIn_range', Std.Legacy.Range.size, Nat.sub_zero, Nat.add_sub_cancel, Nat.div_one, List.range'_succ, List.range'_zero, List.forIn_cons, List.forIn_nil]
  unfold unb
  go_simp
  by_cases h1 : b0 = -1 <;> by_cases h2 : b1 = -1 <;> by_cases h3 : b2 = -1 <;> simp [h1, h2, h3]
theorem steps_any (A : Option Addr) (kc : Nat) (c : C) (i : Int) (back : Bool) (w : World) :
    Calls Tryz.prog 68 #[.agg #[.int .i64 c.wires, .int .i64 c.bits, .slice A c.gates.length kc], .int .i64 i, .bool back] w fun e w' =>
      e = .returned (.func (.func 114) #[] #[.pointer (some ⟨w.heap.size + 1, 0, none⟩), .pointer (some ⟨w.heap.size + 2, 0, none⟩), .pointer (some ⟨w.heap.size, 0, none⟩)]) ∧
      w' = ((w.alloc (.cells #[.int .i64 c.wires, .int .i64 c.bits, .slice A c.gates.length kc] 93)).alloc (.cells #[.int .i64 i] 3)).alloc (.cells #[.bool back] 4) := by
  have hmf : ∀ (fn : Fn) (first cap : Array Value) (w : World), (Instr.makeFunc fn first cap).run Tryz.prog w = .ok (.func fn first cap) w := fun _ _ _ _ => rfl
  go_enter Tryz.func68, Tryz.ntmps68
  go_wp2
  go_ret
  exact ⟨rfl, rfl⟩
set_option maxRecDepth 1000000 in
set_option maxHeartbeats 8000000 in
theorem steps1_iter (n0 nb : Nat) (c : C) (A : Option Addr) (kc i : Nat) (back : Bool) (w : World) (hi : i < 44) (hf : fitB i back = true) (hG : Good c) (hkc : c.gates.length ≤ kc) (hn0 : n0 ≤ nb) (hnb : nb + 3 ≤ w.heap.size)
    (h0 : w.heap[nb]? = some (.cells #[.int .i64 c.wires, .int .i64 c.bits, .slice A c.gates.length kc] 93 (0, 0))) (h1 : w.heap[nb + 1]? = some (.cells #[.int .i64 i] 3 (0, 0))) (h2 : w.heap[nb + 2]? = some (.cells #[.bool back] 4 (0, 0)))
    (hR : ∀ W', Keep ex2 n0 w W' → Laid W' ∧ RdG W' A c.gates) :
    IterK Tryz.prog 114 #[.pointer (some ⟨nb + 1, 0, none⟩), .pointer (some ⟨nb + 2, 0, none⟩), .pointer (some ⟨nb, 0, none⟩)] (RpS w.heap.size) (Keep (ex1 nb) n0) w (stepsL c i back) := by
  intro l J Jx W hW hJ hJx hY hJ0
  refine callsIn_wide.2 ?_
  have hmf : ∀ (fn : Fn) (first cap : Array Value) (w : World), (Instr.makeFunc fn first cap).run Tryz.prog w = .ok (.func fn first cap) w := fun _ _ _ _ => rfl
  have hWs := hW.size
  obtain ⟨W1, hW1⟩ : ∃ W1, W.alloc (.cells #[.func (.yield l) #[] #[]] 152) = W1 := ⟨_, rfl⟩
  have hb1 : Below W.heap.size W W1 := by rw [← hW1]; (repeat (first|exact bR _ _|assumption|apply bN|apply bA|apply bD))
  have py : W1.heap[W.heap.size]? = some (.cells #[.func (.yield l) #[] #[]] 152 (0, 0)) := by rw [← hW1]; exact blk_alloc _ _ _ rfl
  have hs1 : W.heap.size + 1 ≤ W1.heap.size := by rw [← hW1]; simp
  have q0 := blk2 hb1 (blk2 hW h0)
  have q1 := blk2 hb1 (blk2 hW h1)
  have q2 := blk2 hb1 (blk2 hW h2)
  have HK := Lib.hid (show Keep ex2 n0 w W from Keep.of_below hW (by omega))
  have HR := Lib.hid hR
  have HY := Lib.hid (show AsksY n0 nb w.heap.size l (stepsL c i back) J Jx from hY)
  have HABI := Lib.hid (And.intro hJ hJx)
  have HJ := Lib.hid (hJ.below hJ0 hb1)
  have HG := Lib.hid (And.intro hG hf)
  have HB1 := Lib.hid hb1
  clear h0 h1 h2 hR hY hJ hJx hJ0 hG hf hW hb1
  have hK1 : Keep ex2 n0 w W1 := HK.out.trans (Keep.of_below HB1.out (by omega))
  have hr := ruled_any i hi W1 (Lib.hid (HR.out _ hK1).1)
  have b1 := Boxed.cell q1
  have HQ := Lib.hid (And.intro q0 (And.intro q1 (And.intro q2 py)))
  clear q0 q1 q2 py hK1
  simp only [List.append_toArray, List.cons_append, List.nil_append]
  go_enter Tryz.func114, Tryz.ntmps114
  go_wp2_with fail
  try rw [hW1]
  clear hW1
  refine hr.mono ?_
  clear hr
  rintro e w2 ⟨v1, v2, rfl, ho1, ho2, hb2⟩
  obtain ⟨A1, c1, rfl, _⟩ := ho1.form'
  obtain ⟨A2, c2, rfl, _⟩ := ho2.form'
  obtain ⟨fx, hfx⟩ : ∃ fx, fitsF i = .func (.func fx) #[] #[] := ⟨_, rfl⟩
  rw [hfx]
  have HB2 := Lib.hid hb2
  have hs2 := hb2.size
  have d1 := Boxed.cell (blk2 hb2 HQ.out.2.1)
  have d2 := Boxed.cell (blk2 hb2 HQ.out.2.2.1)
  have l1 := blk_lt (blk2 hb2 HQ.out.2.1)
  have l2 := blk_lt (blk2 hb2 HQ.out.2.2.1)
  have hold := olds w2
  clear ho1 ho2 hb2 hfx b1
  obtain ⟨rw_, hrw⟩ : ∃ z, ruleW i = z := ⟨_, rfl⟩
  obtain ⟨rp, hrp⟩ : ∃ z, ruleP i = z := ⟨_, rfl⟩
  rw [hrw, hrp]
  have HRW := Lib.hid (And.intro hrw hrp)
  clear hrw hrp
  go_wp2_with fail
  obtain ⟨W3, hW3⟩ : ∃ W3, w2.alloc (.cells #[.slice A1 (ruleL i).length c1, .slice A2 (ruleR i).length c2, .int .i64 rw_, .int .i64 rp, .func (.func fx) #[] #[]] 88) = W3 := ⟨_, rfl⟩
  have hb3 : Below w2.heap.size w2 W3 := by rw [← hW3]; (repeat (first|exact bR _ _|assumption|apply bN|apply bA|apply bD))
  have pr : W3.heap[w2.heap.size]? = some (.cells #[.slice A1 (ruleL i).length c1, .slice A2 (ruleR i).length c2, .int .i64 (ruleW i), .int .i64 (ruleP i), .func (.func fx) #[] #[]] 88 (0, 0)) := by rw [HRW.out.1, HRW.out.2, ← hW3]; exact blk_alloc _ _ _ rfl
  have hs3 : W3.heap.size = w2.heap.size + 1 := by rw [← hW3]; simp
  rw [hW3]
  clear hW3 d1 d2 hold
  have hb13 : Below W1.heap.size W1 W3 := HB2.out.trans (hb3.mono HB2.out.size)
  have hK3 : Keep ex2 n0 w W3 := HK.out.trans ((Keep.of_below HB1.out (by omega)).trans (Keep.of_below hb13 (by omega)))
  refine (sides_any i hi back W3 (Lib.hid (HR.out _ hK3).1)).mono ?_
  rintro e w4 ⟨v1, v5, rfl, ho1, _, hb4⟩
  obtain ⟨A4, c4, rfl, _⟩ := ho1.form'
  have hs4 := hb4.size
  have hb14 := hb13.trans (hb4.mono hb13.size)
  have HP4 := Lib.hid (And.intro ho1 (And.intro hb14 (And.intro (blk2 hb4 pr) (hK3.trans (Keep.of_below hb4 (by omega))))))
  obtain ⟨f0, f1, f2, ff⟩ := cells3 (blk2 hb14 HQ.out.1)
  have l0 := blk_lt (blk2 hb14 HQ.out.1)
  have hold := olds w4
  have hlen := HG.out.1.len
  have hwl : IntKind.i64.wrap ((c.gates.length : Int) + 1) = (c.gates.length : Int) + 1 := IntWalk.i64_in _ (by omega)
  clear ho1 hb4 hb13 hb14 pr hK3 hb3
  go_upto_region 6 with fail
  obtain ⟨W5, hW5⟩ : ∃ W5, (w4.alloc (.cells #[.bool true] 4)).alloc (.cells #[.func (.func 116) #[] #[.pointer (some ⟨w4.heap.size, 0, none⟩), .pointer (some ⟨w2.heap.size, 0, none⟩), .pointer (some ⟨nb + 1, 0, none⟩), .pointer (some ⟨nb + 2, 0, none⟩), .pointer (some ⟨nb, 0, none⟩), .pointer (some ⟨W.heap.size, 0, none⟩), .pointer (some ⟨w4.heap.size + 1, 0, none⟩)]] 155) = W5 := ⟨_, rfl⟩
  have hb5 : Below w4.heap.size w4 W5 := by rw [← hW5]; (repeat (first|exact bR _ _|assumption|apply bN|apply bA|apply bD))
  have pm : W5.heap[w4.heap.size]? = some (.cells #[.bool true] 4 (0, 0)) := by rw [← hW5]; exact alloc_old (blk_alloc _ _ _ rfl)
  have pc : W5.heap[w4.heap.size + 1]? = some (.cells #[.func (.func 116) #[] #[.pointer (some ⟨w4.heap.size, 0, none⟩), .pointer (some ⟨w2.heap.size, 0, none⟩), .pointer (some ⟨nb + 1, 0, none⟩), .pointer (some ⟨nb + 2, 0, none⟩), .pointer (some ⟨nb, 0, none⟩), .pointer (some ⟨W.heap.size, 0, none⟩), .pointer (some ⟨w4.heap.size + 1, 0, none⟩)]] 155 (0, 0)) := by rw [← hW5]; exact blk_alloc _ _ _ (by simp)
  have hs5 : w4.heap.size + 2 ≤ W5.heap.size := by rw [← hW5]; simp
  try rw [hW5]
  clear hW5 f0 f1 f2 ff hold
  have hb15 := HP4.out.2.1.trans (hb5.mono HP4.out.2.1.size)
  have hB5 : ChB nb W.heap.size w2.heap.size w4.heap.size (w4.heap.size + 1) l c A kc i back (.slice A1 (ruleL i).length c1) (.slice A2 (ruleR i).length c2) (.func (.func fx) #[] #[]) W5 :=
    ⟨blk2 hb15 HQ.out.1, blk2 hb15 HQ.out.2.1, blk2 hb15 HQ.out.2.2.1, blk2 hb15 HQ.out.2.2.2, blk2 hb5 HP4.out.2.2.1, pc⟩
  have HS := Lib.hid (show ChB nb W.heap.size w2.heap.size w4.heap.size (w4.heap.size + 1) l c A kc i back (.slice A1 (ruleL i).length c1) (.slice A2 (ruleR i).length c2) (.func (.func fx) #[] #[]) W5 ∧ Keep ex2 n0 W5 W5 ∧ Mo w4.heap.size J Jx ((List.range 0).flatMap (atL c i back)) W5 from
    ⟨hB5, Keep.refl _, .inl ⟨pm, HABI.out.1.below HJ.out hb15⟩⟩)
  have HF := Lib.hid (And.intro (HP4.out.1.below hb5) (HP4.out.2.2.2.trans (Keep.of_below (n0 := n0) hb5 (by omega))))
  obtain ⟨f0, f1, f2, ff⟩ := cells3 hB5.1
  have hord : nb + 3 ≤ W.heap.size ∧ W.heap.size < w2.heap.size ∧ w2.heap.size < w4.heap.size ∧ w4.heap.size < w4.heap.size + 1 := by omega
  have HORD := Lib.hid hord
  clear pm pc hb15 hB5 hb5 hord
  go_wp2
  clear f0 f1 f2 ff
  go_loopw [11, 12, 13, 29] (fun _ _ _ iz wr => ∃ m : Nat, m ≤ c.gates.length + 1 ∧ iz = .int .i64 m ∧ Hid (ChB nb W.heap.size w2.heap.size w4.heap.size (w4.heap.size + 1) l c A kc i back (.slice A1 (ruleL i).length c1) (.slice A2 (ruleR i).length c2) (.func (.func fx) #[] #[]) wr ∧ Keep ex2 n0 W5 wr ∧ Mo w4.heap.size J Jx ((List.range m).flatMap (atL c i back)) wr)) (fun _ _ _ iz _ => c.gates.length + 1 - (intOf iz).toNat)
  case atStart => exact ⟨0, Nat.zero_le _, rfl, HS⟩
  case round =>
    clear HS
    obtain ⟨m, hm, rfl, HI⟩ := hrel
    by_cases hlt : m < c.gates.length + 1
    · have hlti : (m : Int) < (c.gates.length : Int) + 1 := by omega
      have hkw : Keep ex2 n0 w wr := HF.out.2.trans HI.out.2.1
      have hwr5 := HI.out.2.1.size
      obtain ⟨hla, hrd⟩ := HR.out _ hkw
      obtain ⟨_, _, hy4, _, hrf⟩ := (HF.out.1.keep HI.out.2.1).rd (by have := (from_wires i hi back).1; omega) (fun g hg => by have := ((from_wires i hi back).2 g hg).1; omega)
      cases hy4
      have hbd := binds_any A A4 kc c4 c (fromG i back) m wr (Lib.hid hla) hrd hkc hrf HG.out.1 (by omega) (by have := (from_wires i hi back).1; omega) (from_good i hi back)
      obtain ⟨f0, f1, f2, ff⟩ := cells3 HI.out.1.1
      have HW := Lib.hid (And.intro hkw hla)
      have HMS := Lib.hid (flatMap_succ (atL c i back) m)
      have HPR := Lib.hid (show (List.range (m + 1)).flatMap (atL c i back) <+: stepsL c i back from flatMap_range (atL c i back) hlt)
      clear hkw hla hrd hrf
      go_wp2_with fail
      refine hbd.mono ?_
      clear hbd f0 f1 f2 ff
      rintro e w6 ⟨b0, b1, b2, q, rfl, heq, hb6⟩
      have hs6 := hb6.size
      cases q
      · have HA := Lib.hid (show (List.range (m + 1)).flatMap (atL c i back) = (List.range m).flatMap (atL c i back) by rw [HMS.out]; unfold atL; rw [heq]; simp)
        have HB6 := Lib.hid hb6
        clear heq hb6
        go_wp2
        go_roundw
        case rel =>
          have hb9 := HB6.out.trans ((below_alloc (Below.refl w6.heap.size w6) (.cells #[.int .i64 b0, .int .i64 b1, .int .i64 b2] 157)).mono hs6)
          exact ⟨m + 1, by omega, by go_num, Lib.hid ⟨HI.out.1.below hb9, HI.out.2.1.trans (Keep.of_below hb9 (by omega)), by rw [HA.out]; exact HI.out.2.2.below HABI.out.1 HABI.out.2 hb9⟩⟩
        case measure => simp [intOf]; omega
      · have HBD := Lib.hid (show bindsR c (fromG i back) m = some [b0, b1, b2] by rw [heq]; rfl)
        have HBK := Lib.hid (binds_ok hi HG.out.1 HBD.out)
        have HB6 := Lib.hid hb6
        clear heq hb6
        go_upto_region 10 with fail
        obtain ⟨W7, hW7⟩ : ∃ W7, w6.alloc (.cells #[.int .i64 b0, .int .i64 b1, .int .i64 b2] 157) = W7 := ⟨_, rfl⟩
        have hb67 : Below w6.heap.size w6 W7 := by rw [← hW7]; (repeat (first|exact bR _ _|assumption|apply bN|apply bA|apply bD))
        have pb : W7.heap[w6.heap.size]? = some (.cells #[.int .i64 b0, .int .i64 b1, .int .i64 b2] 157 (0, 0)) := by rw [← hW7]; exact blk_alloc _ _ _ rfl
        try rw [hW7]
        clear hW7
        have hbw7 := HB6.out.trans (hb67.mono hs6)
        have HB7 := Lib.hid hbw7
        have HC7 := Lib.hid (HI.out.1.below hbw7)
        obtain ⟨d0, d1, d2, df⟩ := cells3 pb
        obtain ⟨u0, u1, u2⟩ := (HW.out.2.below hbw7).unb
        obtain ⟨f0, f1, f2, ff⟩ := cells3 HC7.out.1
        have e5 : W7.cell? ⟨w2.heap.size, 2, none⟩ = some (.int .i64 (ruleW i)) := by rw [cell_of_row _ _ 2 _ _ (0, 0) HC7.out.2.2.2.2.1]; rfl
        have c6 := Boxed.cell HC7.out.2.2.2.2.2
        obtain ⟨p, hp⟩ : ∃ p, decide ([b0, b1, b2] = unb) = p := ⟨_, rfl⟩
        have heb := fun W => eq_bound b0 b1 b2 W
        rw [hp] at heb
        have HPP := Lib.hid hp
        have hs7 := hbw7.size
        obtain ⟨rz, hrz⟩ : ∃ z, ruleW i = z := ⟨_, rfl⟩
        rw [hrz] at e5
        have HRZ := Lib.hid hrz
        clear hb67 pb hbw7 hp hrz
        cases p
        · have hnu : ¬ [b0, b1, b2] = unb := by have := HPP.out; simpa using this
          have HA := Lib.hid (show (List.range (m + 1)).flatMap (atL c i back) = (List.range m).flatMap (atL c i back) ++ chooseL c i back m (ruleW i).toNat 0 [b0, b1, b2] by
            rw [HMS.out]
            congr 1
            unfold atL
            rw [HBD.out]
            exact if_neg (fun e => hnu e.1))
          have hch := choose_any n0 nb W.heap.size w2.heap.size w4.heap.size (w4.heap.size + 1) l w.heap.size c A kc i back (.slice A1 (ruleL i).length c1) (.slice A2 (ruleR i).length c2) (.func (.func fx) #[] #[]) (stepsL c i back) J Jx m w hi HG.out.2 HG.out.1 (by omega) hkc HORD.out hn0 hWs HABI.out.1 HABI.out.2 HY.out HR.out
            (ruleW i).toNat 0 b0 b1 b2 ((List.range m).flatMap (atL c i back)) ((List.range (m + 1)).flatMap (atL c i back)) W7 (by have := (rule_ok i hi).2.2; omega) HBK.out (by simp) HC7.out (HW.out.1.trans (Keep.of_below HB7.out (by omega))) (by omega) (HI.out.2.2.below HABI.out.1 HABI.out.2 HB7.out) HA HPR.out
          rw [show ((0 : Nat) : Int) = 0 from rfl] at hch
          unfold chArgs at hch
          clear hnu
          go_wp2_with fail
          refine hch.mono ?_
          clear hch
          rintro e w8 ⟨⟨v, rfl⟩, h2, h3, h4⟩
          have HE := Lib.hid (And.intro h2 (And.intro (HI.out.2.1.trans ((Keep.of_below HB7.out (by omega)).trans h3)) h4))
          clear h2 h3 h4
          go_wp2
          go_roundw
          case rel => exact ⟨m + 1, by omega, by go_num, HE⟩
          case measure => simp [intOf]; omega
        · by_cases hwz : c.wires < rz
          · have HA := Lib.hid (show (List.range (m + 1)).flatMap (atL c i back) = (List.range m).flatMap (atL c i back) by
              rw [HMS.out]
              unfold atL
              rw [HBD.out]
              simp only
              rw [if_pos ⟨by have := HPP.out; simpa using this, by rw [HRZ.out]; exact hwz⟩, List.append_nil])
            go_wp2
            go_roundw
            case rel => exact ⟨m + 1, by omega, by go_num, Lib.hid ⟨HC7.out, HI.out.2.1.trans (Keep.of_below HB7.out (by omega)), by rw [HA.out]; exact HI.out.2.2.below HABI.out.1 HABI.out.2 HB7.out⟩⟩
            case measure => simp [intOf]; omega
          · skip
            have HA := Lib.hid (show (List.range (m + 1)).flatMap (atL c i back) = (List.range m).flatMap (atL c i back) ++ chooseL c i back m (ruleW i).toNat 0 [b0, b1, b2] by
              rw [HMS.out]
              congr 1
              unfold atL
              rw [HBD.out]
              exact if_neg (fun e => hwz (by have := e.2; rw [HRZ.out] at this; exact this)))
            have hch := choose_any n0 nb W.heap.size w2.heap.size w4.heap.size (w4.heap.size + 1) l w.heap.size c A kc i back (.slice A1 (ruleL i).length c1) (.slice A2 (ruleR i).length c2) (.func (.func fx) #[] #[]) (stepsL c i back) J Jx m w hi HG.out.2 HG.out.1 (by omega) hkc HORD.out hn0 hWs HABI.out.1 HABI.out.2 HY.out HR.out
              (ruleW i).toNat 0 b0 b1 b2 ((List.range m).flatMap (atL c i back)) ((List.range (m + 1)).flatMap (atL c i back)) W7 (by have := (rule_ok i hi).2.2; omega) HBK.out (by simp) HC7.out (HW.out.1.trans (Keep.of_below HB7.out (by omega))) (by omega) (HI.out.2.2.below HABI.out.1 HABI.out.2 HB7.out) HA HPR.out
            rw [show ((0 : Nat) : Int) = 0 from rfl] at hch
            unfold chArgs at hch
            clear HPP
            go_wp2_with fail
            refine hch.mono ?_
            clear hch
            rintro e w8 ⟨⟨v, rfl⟩, h2, h3, h4⟩
            have HE := Lib.hid (And.intro h2 (And.intro (HI.out.2.1.trans ((Keep.of_below HB7.out (by omega)).trans h3)) h4))
            clear h2 h3 h4
            go_wp2
            go_roundw
            case rel => exact ⟨m + 1, by omega, by go_num, HE⟩
            case measure => simp [intOf]; omega
    · obtain rfl : m = c.gates.length + 1 := by omega
      go_wp2
      go_end0
      refine ⟨⟨_, rfl⟩, ?_⟩
      rcases HI.out.2.2 with h | ⟨_, h⟩
      · exact .inl h.2
      · exact .inr h
end Go.Proofs.YtfommmijojfdbaaGreatDoor
namespace Go.Proofs.YtfommmijojfdbaaGreatDoor
open Go.RowKit
theorem lessW_self (xs : List Int) : lessW xs xs = false := by
  induction xs with
  | nil => rfl
  | cons x xs ih => rw [lessW, if_pos rfl, ih]
theorem lessW_eq : ∀ (xs ys : List Int), lessW xs ys = false → lessW ys xs = false → xs = ys
  | [], [], _, _ => rfl
  | [], y :: ys, h, _ => by simp [lessW] at h
  | x :: xs, [], _, h => by simp [lessW] at h
  | x :: xs, y :: ys, h1, h2 => by
    by_cases e : x = y
    · subst e
      rw [lessW, if_pos rfl] at h1 h2
      rw [lessW_eq xs ys h1 h2]
    · rw [lessW, if_neg e, decide_eq_false_iff_not] at h1
      rw [lessW, if_neg (fun h => e h.symm), decide_eq_false_iff_not] at h2
      omega
theorem lessM_self (s : M) : lessM s s = false := by simp [lessM, lessW_self]
theorem lessM_eq {s t : M} (h1 : lessM s t = false) (h2 : lessM t s = false) : s = t := by
  obtain ⟨r, a, b, ws⟩ := s
  obtain ⟨r', a', b', ws'⟩ := t
  simp only [lessM] at h1 h2
  by_cases e1 : r = r'
  · subst e1
    by_cases e2 : b = b'
    · subst e2
      by_cases e3 : a = a'
      · subst e3
        simp at h1 h2
        rw [lessW_eq _ _ h1 h2]
      · rw [if_neg (by simp), if_neg (by simp), if_pos e3, decide_eq_false_iff_not] at h1
        rw [if_neg (by simp), if_neg (by simp), if_pos (fun h => e3 h.symm), decide_eq_false_iff_not] at h2
        omega
    · rw [if_neg (by simp), if_pos e2] at h1
      rw [if_neg (by simp), if_pos (fun h => e2 h.symm)] at h2
      cases b <;> cases b' <;> simp_all
  · rw [if_pos e1, decide_eq_false_iff_not] at h1
    rw [if_pos (fun h => e1 h.symm), decide_eq_false_iff_not] at h2
    omega
set_option maxRecDepth 100000 in
set_option maxHeartbeats 4000000 in
theorem rEqual_any (A B : Option Addr) (n m c d : Nat) (xs ys : List M) (w : World) (h : RdM w A xs) (h' : RdM w B ys) (hn : xs.length = n) (hm : ys.length = m) :
    Calls Tryz.prog 22 #[.slice A n c, .slice B m d] w fun e w' => e = .returned (.bool (decide (xs = ys))) ∧ Below w.heap.size w w' := by
  subst hn
  subst hm
  have hl1 := h.1
  have hl2 := h'.1
  have HH := Lib.hid (And.intro h h')
  clear h h'
  go_enter Tryz.func22, Tryz.ntmps22
  by_cases h1 : xs.length = ys.length
  case neg =>
    have t1 : ((xs.length : Int) != (ys.length : Int)) = true := by simp; omega
    have H1 := Lib.hid h1
    clear h1
    go_wp2
    go_ret
    exact ⟨ret_bool (by rw [eq_comm, decide_eq_false_iff_not]; exact fun e => H1.out (by rw [e])), by (repeat (first|exact bR _ _|assumption|apply bN|apply bA|apply bD))⟩
  have t1 : ((xs.length : Int) != (ys.length : Int)) = false := by simp; omega
  have hle : xs.length ≤ ys.length := by omega
  have H1 := Lib.hid h1
  clear h1
  go_wp2
  go_loopw [5, 13] (fun _ i wr => ∃ j : Nat, j ≤ xs.length ∧ i = .int .i64 j ∧ Hid (xs.take j = ys.take j) ∧ Below w.heap.size w wr) (fun _ i _ => xs.length - (intOf i).toNat)
  case atStart => exact ⟨0, Nat.zero_le _, rfl, Lib.hid (by simp), by (repeat (first|exact bR _ _|assumption|apply bN|apply bA|apply bD))⟩
  case round =>
    obtain ⟨j, hj, rfl, HI, hb⟩ := hrel
    by_cases hlt : j < xs.length
    · have hlt' : j < ys.length := by omega
      obtain ⟨b, o, B0, d0, rfl, g0, g1, g2, g3, hd, hrd⟩ := (HH.out.1.bM hb).move j hlt
      obtain ⟨b', o', B1, d1, rfl, i0, i1, i2, i3, hd', hrd'⟩ := (HH.out.2.bM hb).move j hlt'
      obtain ⟨g, hg⟩ : ∃ g, xs[j] = g := ⟨_, rfl⟩
      obtain ⟨h, hh⟩ : ∃ g, ys[j] = g := ⟨_, rfl⟩
      have HG := Lib.hid (And.intro hg hh)
      rw [hg] at g0 g1 g2 g3 hd hrd
      rw [hh] at i0 i1 i2 i3 hd' hrd'
      have HR := Lib.hid (And.intro hrd (And.intro hrd' hb))
      clear hg hh hrd hrd' hb
      obtain ⟨p, hp⟩ : ∃ p, lessM g h = p := ⟨_, rfl⟩
      obtain ⟨q, hq⟩ : ∃ q, lessM h g = q := ⟨_, rfl⟩
      have HPQ := Lib.hid (And.intro hp hq)
      clear hp hq
      cases p
      case true =>
        have HF := Lib.hid (show decide (xs = ys) = false by
          rw [decide_eq_false_iff_not]
          intro e
          have e1 : g = h := by rw [← HG.out.1, ← HG.out.2]; simp [e]
          have := HPQ.out.1
          rw [e1, lessM_self] at this
          cases this)
        go_wp2
        refine wp_region_sg (by kernel_rfl) [0, 1, 2, 3, 4, 5, 6, 7, 8, 9, 10, 11, 12, 13, 14, 15, 16, 17, 18, 19] (by kernel_rfl) (by kernel_rfl) (by kernel_rfl) ?_
        refine SG.p (v := ?v1_6_0) rfl rfl rfl (fun W => ?h1_6_0) ?r1_6_0
        case h1_6_0 => (first|(go_simp;done)|(go_simp;with_reducible rfl))
        simp only [Act.put, pA, pB, pC]
        refine SG.p (v := ?v1_6_1) rfl rfl rfl (fun W => ?h1_6_1) ?r1_6_1
        case h1_6_1 => (first|(go_simp;done)|(go_simp;with_reducible rfl))
        simp only [Act.put, pA, pB, pC]
        refine SG.p (v := ?v1_6_2) rfl rfl rfl (fun W => ?h1_6_2) ?r1_6_2
        case h1_6_2 => (first|(go_simp;done)|(go_simp;with_reducible rfl))
        simp only [Act.put, pA, pB, pC]
        refine SG.l (v := ?v1_6_3) rfl rfl rfl ?h1_6_3 ?r1_6_3
        case h1_6_3 => (first|(go_simp;done)|(go_simp;with_reducible rfl))
        simp only [Act.put, pA, pB, pC]
        refine SG.p (v := ?v1_6_4) rfl rfl rfl (fun W => ?h1_6_4) ?r1_6_4
        case h1_6_4 => (first|(go_simp;done)|(go_simp;with_reducible rfl))
        simp only [Act.put, pA, pB, pC]
        refine SG.p (v := ?v1_6_5) rfl rfl rfl (fun W => ?h1_6_5) ?r1_6_5
        case h1_6_5 => (first|(go_simp;done)|(go_simp;with_reducible rfl))
        simp only [Act.put, pA, pB, pC]
        refine SG.p (v := ?v1_6_6) rfl rfl rfl (fun W => ?h1_6_6) ?r1_6_6
        case h1_6_6 => (first|(go_simp;done)|(go_simp;with_reducible rfl))
        simp only [Act.put, pA, pB, pC]
        refine SG.l (v := ?v1_6_7) rfl rfl rfl ?h1_6_7 ?r1_6_7
        case h1_6_7 => (first|(go_simp;done)|(go_simp;with_reducible rfl))
        simp only [Act.put, pA, pB, pC]
        refine SG.c rfl rfl rfl (by first|(go_simp;done)|(go_simp;with_reducible rfl)|(go_simp;exact ⟨⟨rfl, rfl⟩, rfl⟩)) ?_
        refine (rLess_any g h B0 B1 d0 d1 _ (HR.out.1.bI (by (repeat (first|exact bR _ _|assumption|apply bN|apply bA|apply bD)))) (HR.out.2.1.bI (by (repeat (first|exact bR _ _|assumption|apply bN|apply bA|apply bD))))).mono ?_
        rintro e w2 ⟨rfl, hb2⟩
        rw [HPQ.out.1]
        have hbr : Below wr.heap.size wr w2 := Below.trans (b := wr.drew) (by (repeat (first|exact bR _ _|assumption|apply bN|apply bA|apply bD))) hb2
        clear g0 g1 g2 g3 i0 i1 i2 i3
        refine ⟨_, rfl, ?_, ?_⟩
        · exact ⟨(nw (by kernel_rfl)), (nw (by kernel_rfl)), trivial⟩
        simp only [Act.put, pA, pB, pC]
        refine SG.p (v := ?v1_6_9) rfl rfl rfl (fun W => ?h1_6_9) ?r1_6_9
        case h1_6_9 => (first|(go_simp;done)|(go_simp;with_reducible rfl))
        simp only [Act.put, pA, pB, pC]
        refine SG.s rfl (by first|rfl|(simp [Region.wanted, yielded, *];done)) ?_
        simp only [Act.put, pA, pB, pC]
        refine SG.s rfl (by first|rfl|(simp [Region.wanted, yielded, *];done)) ?_
        simp only [Act.put, pA, pB, pC]
        refine SG.s rfl (by first|rfl|(simp [Region.wanted, yielded, *];done)) ?_
        simp only [Act.put, pA, pB, pC]
        refine SG.s rfl (by first|rfl|(simp [Region.wanted, yielded, *];done)) ?_
        simp only [Act.put, pA, pB, pC]
        refine SG.s rfl (by first|rfl|(simp [Region.wanted, yielded, *];done)) ?_
        simp only [Act.put, pA, pB, pC]
        refine SG.s rfl (by first|rfl|(simp [Region.wanted, yielded, *];done)) ?_
        simp only [Act.put, pA, pB, pC]
        refine SG.s rfl (by first|rfl|(simp [Region.wanted, yielded, *];done)) ?_
        simp only [Act.put, pA, pB, pC]
        refine SG.s rfl (by first|rfl|(simp [Region.wanted, yielded, *];done)) ?_
        simp only [Act.put, pA, pB, pC]
        refine SG.s rfl (by first|rfl|(simp [Region.wanted, yielded, *];done)) ?_
        simp only [Act.put, pA, pB, pC]
        refine SG.p (v := ?v1_6_19) rfl rfl rfl (fun W => ?h1_6_19) ?r1_6_19
        case h1_6_19 => (first|(go_simp;done)|(go_simp;with_reducible rfl))
        simp only [Act.put, pA, pB, pC]
        simp only [SG]
        go_wp2
        go_ret
        exact ⟨ret_bool HF.out.symm, HR.out.2.2.trans (hbr.mono HR.out.2.2.size)⟩
      case false =>
        go_wp2
        refine wp_region_sg (by kernel_rfl) [0, 1, 2, 3, 4, 5, 6, 7, 8, 9, 10, 11, 12, 13, 14, 15, 16, 17, 18, 19] (by kernel_rfl) (by kernel_rfl) (by kernel_rfl) ?_
        refine SG.p (v := ?v2_6_0) rfl rfl rfl (fun W => ?h2_6_0) ?r2_6_0
        case h2_6_0 => (first|(go_simp;done)|(go_simp;with_reducible rfl))
        simp only [Act.put, pA, pB, pC]
        refine SG.p (v := ?v2_6_1) rfl rfl rfl (fun W => ?h2_6_1) ?r2_6_1
        case h2_6_1 => (first|(go_simp;done)|(go_simp;with_reducible rfl))
        simp only [Act.put, pA, pB, pC]
        refine SG.p (v := ?v2_6_2) rfl rfl rfl (fun W => ?h2_6_2) ?r2_6_2
        case h2_6_2 => (first|(go_simp;done)|(go_simp;with_reducible rfl))
        simp only [Act.put, pA, pB, pC]
        refine SG.l (v := ?v2_6_3) rfl rfl rfl ?h2_6_3 ?r2_6_3
        case h2_6_3 => (first|(go_simp;done)|(go_simp;with_reducible rfl))
        simp only [Act.put, pA, pB, pC]
        refine SG.p (v := ?v2_6_4) rfl rfl rfl (fun W => ?h2_6_4) ?r2_6_4
        case h2_6_4 => (first|(go_simp;done)|(go_simp;with_reducible rfl))
        simp only [Act.put, pA, pB, pC]
        refine SG.p (v := ?v2_6_5) rfl rfl rfl (fun W => ?h2_6_5) ?r2_6_5
        case h2_6_5 => (first|(go_simp;done)|(go_simp;with_reducible rfl))
        simp only [Act.put, pA, pB, pC]
        refine SG.p (v := ?v2_6_6) rfl rfl rfl (fun W => ?h2_6_6) ?r2_6_6
        case h2_6_6 => (first|(go_simp;done)|(go_simp;with_reducible rfl))
        simp only [Act.put, pA, pB, pC]
        refine SG.l (v := ?v2_6_7) rfl rfl rfl ?h2_6_7 ?r2_6_7
        case h2_6_7 => (first|(go_simp;done)|(go_simp;with_reducible rfl))
        simp only [Act.put, pA, pB, pC]
        refine SG.c rfl rfl rfl (by first|(go_simp;done)|(go_simp;with_reducible rfl)|(go_simp;exact ⟨⟨rfl, rfl⟩, rfl⟩)) ?_
        refine (rLess_any g h B0 B1 d0 d1 _ (HR.out.1.bI (by (repeat (first|exact bR _ _|assumption|apply bN|apply bA|apply bD)))) (HR.out.2.1.bI (by (repeat (first|exact bR _ _|assumption|apply bN|apply bA|apply bD))))).mono ?_
        rintro e w2 ⟨rfl, hb2⟩
        rw [HPQ.out.1]
        have hbr : Below wr.heap.size wr w2 := Below.trans (b := wr.drew) (by (repeat (first|exact bR _ _|assumption|apply bN|apply bA|apply bD))) hb2
        replace g0 := kc hbr g0
        replace g1 := kc hbr g1
        replace g2 := kc hbr g2
        replace g3 := kc hbr g3
        replace i0 := kc hbr i0
        replace i1 := kc hbr i1
        replace i2 := kc hbr i2
        replace i3 := kc hbr i3
        refine ⟨_, rfl, ?_, ?_⟩
        · exact ⟨(nw (by kernel_rfl)), (nw (by kernel_rfl)), trivial⟩
        simp only [Act.put, pA, pB, pC]
        refine SG.p (v := ?v2_6_9) rfl rfl rfl (fun W => ?h2_6_9) ?r2_6_9
        case h2_6_9 => (first|(go_simp;done)|(go_simp;with_reducible rfl))
        simp only [Act.put, pA, pB, pC]
        refine SG.p (v := ?v2_6_10) rfl rfl (by first|rfl|(simp [Region.wanted, yielded, *];done)) (fun W => ?h2_6_10) ?r2_6_10
        case h2_6_10 => (first|(go_simp;done)|(go_simp;with_reducible rfl))
        simp only [Act.put, pA, pB, pC]
        refine SG.p (v := ?v2_6_11) rfl rfl (by first|rfl|(simp [Region.wanted, yielded, *];done)) (fun W => ?h2_6_11) ?r2_6_11
        case h2_6_11 => (first|(go_simp;done)|(go_simp;with_reducible rfl))
        simp only [Act.put, pA, pB, pC]
        refine SG.p (v := ?v2_6_12) rfl rfl (by first|rfl|(simp [Region.wanted, yielded, *];done)) (fun W => ?h2_6_12) ?r2_6_12
        case h2_6_12 => (first|(go_simp;done)|(go_simp;with_reducible rfl))
        simp only [Act.put, pA, pB, pC]
        refine SG.l (v := ?v2_6_13) rfl rfl (by first|rfl|(simp [Region.wanted, yielded, *];done)) ?h2_6_13 ?r2_6_13
        case h2_6_13 => (first|(go_simp;done)|(go_simp;with_reducible rfl))
        simp only [Act.put, pA, pB, pC]
        refine SG.p (v := ?v2_6_14) rfl rfl (by first|rfl|(simp [Region.wanted, yielded, *];done)) (fun W => ?h2_6_14) ?r2_6_14
        case h2_6_14 => (first|(go_simp;done)|(go_simp;with_reducible rfl))
        simp only [Act.put, pA, pB, pC]
        refine SG.p (v := ?v2_6_15) rfl rfl (by first|rfl|(simp [Region.wanted, yielded, *];done)) (fun W => ?h2_6_15) ?r2_6_15
        case h2_6_15 => (first|(go_simp;done)|(go_simp;with_reducible rfl))
        simp only [Act.put, pA, pB, pC]
        refine SG.p (v := ?v2_6_16) rfl rfl (by first|rfl|(simp [Region.wanted, yielded, *];done)) (fun W => ?h2_6_16) ?r2_6_16
        case h2_6_16 => (first|(go_simp;done)|(go_simp;with_reducible rfl))
        simp only [Act.put, pA, pB, pC]
        refine SG.l (v := ?v2_6_17) rfl rfl (by first|rfl|(simp [Region.wanted, yielded, *];done)) ?h2_6_17 ?r2_6_17
        case h2_6_17 => (first|(go_simp;done)|(go_simp;with_reducible rfl))
        simp only [Act.put, pA, pB, pC]
        refine SG.c rfl rfl (by first|rfl|(simp [Region.wanted, yielded, *];done)) (by first|(go_simp;done)|(go_simp;with_reducible rfl)|(go_simp;exact ⟨⟨rfl, rfl⟩, rfl⟩)) ?_
        refine (rLess_any h g B1 B0 d1 d0 _ (HR.out.2.1.bI hbr) (HR.out.1.bI hbr)).mono ?_
        rintro e w3 ⟨rfl, hb3⟩
        rw [HPQ.out.2]
        have hbr3 : Below wr.heap.size wr w3 := hbr.trans (hb3.mono hbr.size)
        replace g0 := kc hb3 g0
        replace g1 := kc hb3 g1
        replace g2 := kc hb3 g2
        replace g3 := kc hb3 g3
        replace i0 := kc hb3 i0
        replace i1 := kc hb3 i1
        replace i2 := kc hb3 i2
        replace i3 := kc hb3 i3
        refine ⟨_, rfl, ?_, ?_⟩
        · exact ⟨(nw (by kernel_rfl)), (nw (by kernel_rfl)), (fun _ => ⟨_, drop_at rfl, by (first|(go_simp;done)|(go_simp;with_reducible rfl))⟩), (fun _ => ⟨_, drop_at rfl, by (first|(go_simp;done)|(go_simp;with_reducible rfl))⟩), trivial⟩
        simp only [Act.put, pA, pB, pC]
        refine SG.p (v := ?v2_6_19) rfl rfl rfl (fun W => ?h2_6_19) ?r2_6_19
        case h2_6_19 => (first|(go_simp;done)|(go_simp;with_reducible rfl))
        simp only [Act.put, pA, pB, pC]
        simp only [SG]
        clear g0 g1 g2 g3 i0 i1 i2 i3
        have HB := Lib.hid (HR.out.2.2.trans (hbr3.mono HR.out.2.2.size))
        cases q
        case true =>
          have HF := Lib.hid (show decide (xs = ys) = false by
            rw [decide_eq_false_iff_not]
            intro e
            have e1 : g = h := by rw [← HG.out.1, ← HG.out.2]; simp [e]
            have := HPQ.out.2
            rw [e1, lessM_self] at this
            cases this)
          go_wp2
          go_ret
          exact ⟨ret_bool HF.out.symm, HB.out⟩
        case false =>
          have HI2 := Lib.hid (show xs.take (j + 1) = ys.take (j + 1) by rw [List.take_succ_eq_append_getElem hlt, List.take_succ_eq_append_getElem hlt', HI.out, HG.out.1, HG.out.2, lessM_eq HPQ.out.1 HPQ.out.2])
          go_wp2
          go_roundw
          case rel => exact ⟨j + 1, by omega, by go_num, HI2, HB.out⟩
          case measure => simp [intOf]; omega
    · have HF := Lib.hid (show decide (xs = ys) = true by
        rw [decide_eq_true_eq]
        have e := HI.out
        have h1 := H1.out
        rw [List.take_of_length_le (by omega), List.take_of_length_le (by omega)] at e
        exact e)
      go_wp2
      go_ret
      exact ⟨ret_bool HF.out.symm, hb⟩
end Go.Proofs.YtfommmijojfdbaaGreatDoor
