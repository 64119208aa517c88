/- Part 27 of the proof that 'spoondriftlaw19.RulesApplies' holds for every input; it has no condition beyond the statement's own. -/
import Derived.Test.YtfommmijojfdbaaGreatDoorZ24
import Derived.Test.YtfommmijojfdbaaGreatDoorZ13
import Derived.Test.YtfommmijojfdbaaGreatDoorZ25
import Derived.Test.YtfommmijojfdbaaGreatDoorZ07
set_option linter.all false
namespace Go.Proofs.YtfommmijojfdbaaGreatDoor
open Go.RowKit
theorem rNarrow_all (i : Nat) (hi : i < 8 ∨ (12 ≤ i ∧ i ≤ 32)) (w : World) : Calls Tryz.prog 126 #[.int .i64 i] w (RetRule (ruleW i) (ruleL i) (ruleR i) (ruleP i) w) := by
  have hw : ∀ k : Nat, k < 43 → (k < 8 ∨ (12 ≤ k ∧ k ≤ 32)) → ruleW k = 1 := by decide
  rw [hw i (by omega) hi]
  rcases (show (i = 0 ∨ i = 1 ∨ i = 2 ∨ i = 3 ∨ i = 4 ∨ i = 5 ∨ i = 6 ∨ i = 7 ∨ i = 12 ∨ i = 13) ∨ (i = 14 ∨ i = 15 ∨ i = 16 ∨ i = 17 ∨ i = 18 ∨ i = 19 ∨ i = 20 ∨ i = 21 ∨ i = 22 ∨ i = 23) ∨ (i = 24 ∨ i = 25 ∨ i = 26 ∨ i = 27 ∨ i = 28 ∨ i = 29 ∨ i = 30 ∨ i = 31 ∨ i = 32) by omega) with h | h | h
  · exact rNarrow0_any i h w
  · exact rNarrow1_any i h w
  · exact rNarrow2_any i h w
theorem rWide_all (i : Nat) (hi : (8 ≤ i ∧ i ≤ 11) ∨ (33 ≤ i ∧ i < 43)) (w : World) : Calls Tryz.prog 125 #[.int .i64 i] w (RetRule (ruleW i) (ruleL i) (ruleR i) (ruleP i) w) :=
  rWide_any i (by omega) w
theorem z26t0 {p : Prop} (h : p := by
  refine bodyPost_ret (results_cell_row rfl _ _ w.heap.size 107 _ _ _ rfl (set4 HF.out.1) Tryz.underlying107 rfl (by kernel_rfl)) rfl ?_
  exact ⟨A1, c1, A2, c2, rfl, HF.out.2.1.set4 (by simp) (by simp; omega) _ _ _ _, HF.out.2.2.1.set4 (by simp) (by simp; omega) _ _ _ _, HF.out.2.2.2.1, HF.out.2.2.2.2.1, (((HF.out.2.2.2.2.2.setCell (Nat.le_refl _) _).setCell (Nat.le_refl _) _).setCell (Nat.le_refl _) _).setCell (Nat.le_refl _) _⟩) : p := h
set_option maxRecDepth 100000 in
set_option maxHeartbeats 4000000 in
theorem rRuled_any (i : Nat) (hi : i < 43) (w : World) : Calls Tryz.prog 82 #[.int .i64 i] w (RetRule (ruleW i) (ruleL i) (ruleR i) (ruleP i) w) := by
  have hb0 : Below w.heap.size w (w.alloc (.cells #[.int .i64 0, .slice none 0 0, .slice none 0 0, .int .i64 0] 107)) := by (repeat (first|exact bR _ _|assumption|apply bN|apply bA|apply bD))
  have hbx0 : (w.alloc (.cells #[.int .i64 0, .slice none 0 0, .slice none 0 0, .int .i64 0] 107)).heap[w.heap.size]? = some (.cells #[.int .i64 0, .slice none 0 0, .slice none 0 0, .int .i64 0] 107 (0, 0)) := blk_alloc _ _ _ rfl
  go_enter Tryz.func82, Tryz.ntmps82
  by_cases h8 : 8 ≤ i
  · have t8 : decide ((8 : Int) ≤ (i : Int)) = true := by rw [decide_eq_true_eq]; omega
    have t8' : (8 : Int) ≤ (i : Int) := by omega
    by_cases h11 : i ≤ 11
    · have t11 : decide ((i : Int) ≤ 11) = true := by rw [decide_eq_true_eq]; omega
      have t11' : (i : Int) ≤ 11 := by omega
      have hw := rWide_all i (by omega) (w.alloc (.cells #[.int .i64 0, .slice none 0 0, .slice none 0 0, .int .i64 0] 107))
      clear h8 h11
      go_wp2_with fail
      refine (hw).mono ?_
      rintro e w2 ⟨A1, c1, A2, c2, rfl, r1, r2, h1, h2, hb⟩
      have hbx := blk2 hb hbx0
      clear hbx0
      obtain ⟨s0, s1, s2, s3, sf⟩ := cells4 hbx
      have HF := Lib.hid (And.intro hbx (And.intro r1 (And.intro r2 (And.intro h1 (And.intro h2 (hb0.trans (hb.mono hb0.size)))))))
      have hbl := blk_lt hbx
      clear hbx r1 r2 hb hb0
      go_wp2
      exact z26t0
    · have t11 : decide ((i : Int) ≤ 11) = false := by rw [decide_eq_false_iff_not]; omega
      have t11' : ¬ (i : Int) ≤ 11 := by omega
      by_cases h33 : 33 ≤ i
      · have t33 : decide ((33 : Int) ≤ (i : Int)) = true := by rw [decide_eq_true_eq]; omega
        have t33' : (33 : Int) ≤ (i : Int) := by omega
        have hw := rWide_all i (by omega) (w.alloc (.cells #[.int .i64 0, .slice none 0 0, .slice none 0 0, .int .i64 0] 107))
        clear h8 h11 h33
        go_wp2_with fail
        refine (hw).mono ?_
        rintro e w2 ⟨A1, c1, A2, c2, rfl, r1, r2, h1, h2, hb⟩
        have hbx := blk2 hb hbx0
        clear hbx0
        obtain ⟨s0, s1, s2, s3, sf⟩ := cells4 hbx
        have HF := Lib.hid (And.intro hbx (And.intro r1 (And.intro r2 (And.intro h1 (And.intro h2 (hb0.trans (hb.mono hb0.size)))))))
        have hbl := blk_lt hbx
        clear hbx r1 r2 hb hb0
        go_wp2
        exact z26t0
      · have t33 : decide ((33 : Int) ≤ (i : Int)) = false := by rw [decide_eq_false_iff_not]; omega
        have t33' : ¬ (33 : Int) ≤ (i : Int) := by omega
        have hw := rNarrow_all i (by omega) (w.alloc (.cells #[.int .i64 0, .slice none 0 0, .slice none 0 0, .int .i64 0] 107))
        clear h8 h11 h33
        go_wp2_with fail
        refine (hw).mono ?_
        rintro e w2 ⟨A1, c1, A2, c2, rfl, r1, r2, h1, h2, hb⟩
        have hbx := blk2 hb hbx0
        clear hbx0
        obtain ⟨s0, s1, s2, s3, sf⟩ := cells4 hbx
        have HF := Lib.hid (And.intro hbx (And.intro r1 (And.intro r2 (And.intro h1 (And.intro h2 (hb0.trans (hb.mono hb0.size)))))))
        have hbl := blk_lt hbx
        clear hbx r1 r2 hb hb0
        go_wp2
        exact z26t0
  · have t8 : decide ((8 : Int) ≤ (i : Int)) = false := by rw [decide_eq_false_iff_not]; omega
    have t8' : ¬ (8 : Int) ≤ (i : Int) := by omega
    have t33 : decide ((33 : Int) ≤ (i : Int)) = false := by rw [decide_eq_false_iff_not]; omega
    have t33' : ¬ (33 : Int) ≤ (i : Int) := by omega
    have hw := rNarrow_all i (by omega) (w.alloc (.cells #[.int .i64 0, .slice none 0 0, .slice none 0 0, .int .i64 0] 107))
    clear h8
    go_wp2_with fail
    refine (hw).mono ?_
    rintro e w2 ⟨A1, c1, A2, c2, rfl, r1, r2, h1, h2, hb⟩
    have hbx := blk2 hb hbx0
    clear hbx0
    obtain ⟨s0, s1, s2, s3, sf⟩ := cells4 hbx
    have HF := Lib.hid (And.intro hbx (And.intro r1 (And.intro r2 (And.intro h1 (And.intro h2 (hb0.trans (hb.mono hb0.size)))))))
    have hbl := blk_lt hbx
    clear hbx r1 r2 hb hb0
    go_wp2
    exact z26t0
set_option maxRecDepth 100000 in
set_option maxHeartbeats 4000000 in
theorem rSides_any (i : Nat) (hi : i < 43) (at_ : Int) (back : Bool) (ws : Value) (n c : Nat) (A : Option Addr) (hws : ws = .slice A n c) (w : World) : Calls Tryz.prog 96 #[.agg #[.int .i64 i, .int .i64 at_, .bool back, ws]] w fun e w' => ∃ A1 c1 A2 c2, e = .returned (.tuple #[.slice A1 (fromG i back).length c1, .slice A2 (toG i back).length c2, .int .i64 (ruleW i), .int .i64 (phaseN i back)]) ∧
    (fromG i back).length ≤ c1 ∧ (toG i back).length ≤ c2 ∧ RdG w' A1 (fromG i back) ∧ RdG w' A2 (toG i back) ∧ Below w.heap.size w w' := by
  subst hws
  have hp := ruleP_range i (by omega)
  go_enter Tryz.func96, Tryz.ntmps96
  go_upto_region 1 with fail
  obtain ⟨w1, hw1⟩ : ∃ w1, w.alloc (.cells #[.int .i64 i, .int .i64 at_, .bool back, .slice A n c] 27) = w1 := ⟨_, rfl⟩
  have hb1 : Below w.heap.size w w1 := by rw [← hw1]; (repeat (first|exact bR _ _|assumption|apply bN|apply bA|apply bD))
  have hbx : w1.heap[w.heap.size]? = some (.cells #[.int .i64 i, .int .i64 at_, .bool back, .slice A n c] 27 (0, 0)) := by rw [← hw1]; exact blk_alloc _ _ _ rfl
  obtain ⟨s0, s1, s2, s3, sf⟩ := cells4 hbx
  rw [hw1]
  clear hw1
  have hru := rRuled_any i hi w1
  go_wp2_with fail
  refine hru.mono ?_
  clear hru
  rintro e w2 ⟨A1, c1, A2, c2, rfl, r1, r2, h1, h2, hb⟩
  replace hbx := blk2 hb hbx
  clear s0 s1 s2 s3 sf
  obtain ⟨s0, s1, s2, s3, sf⟩ := cells4 hbx
  have hbl := blk_lt hbx
  have hold := olds w2
  have HF := Lib.hid (And.intro r1.rd (And.intro r2.rd (And.intro h1 (And.intro h2 (hb1.trans (hb.mono hb1.size))))))
  clear hbx r1 r2 h1 h2 hb hb1
  have hwr : IntKind.i64.wrap (8 - ruleP i) = 8 - ruleP i := IntWalk.i64_in _ (by omega)
  have hmd : (8 - ruleP i).tmod 8 = (8 - ruleP i) % 8 := by rw [Int.tmod_eq_emod_of_nonneg (by omega)]
  have hwr2 : IntKind.i64.wrap ((8 - ruleP i) % 8) = (8 - ruleP i) % 8 := IntWalk.i64_in _ (by omega)
  go_upto_region 2 with fail
  cases back
  · go_wp2
    go_quiet (fail)
    go_wp2
    refine bodyPost_ret (results_list (rs := [.tmp 2, .tmp 3, .tmp 4, .tmp 5]) rfl (by simp) (.tmp (.tmp (.tmp (.tmp .nil))))) rfl ?_
    exact ⟨A1, c1, A2, c2, rfl, HF.out.2.2.1, HF.out.2.2.2.1, HF.out.1.bG (by (repeat (first|exact bR _ _|assumption|apply bN|apply bA|apply bD))), HF.out.2.1.bG (by (repeat (first|exact bR _ _|assumption|apply bN|apply bA|apply bD))), by have := HF.out.2.2.2.2; (repeat (first|exact bR _ _|assumption|apply bN|apply bA|apply bD))⟩
  · go_wp2
    go_quiet (fail)
    go_wp2
    refine bodyPost_ret (results_list (rs := [.tmp 2, .tmp 3, .tmp 4, .tmp 5]) rfl (by simp) (.tmp (.tmp (.tmp (.tmp .nil))))) rfl ?_
    refine ⟨A2, c2, A1, c1, ?_, HF.out.2.2.2.1, HF.out.2.2.1, HF.out.2.1.bG (by (repeat (first|exact bR _ _|assumption|apply bN|apply bA|apply bD))), HF.out.1.bG (by (repeat (first|exact bR _ _|assumption|apply bN|apply bA|apply bD))), by have := HF.out.2.2.2.2; (repeat (first|exact bR _ _|assumption|apply bN|apply bA|apply bD))⟩
    rw [show phaseN i true = -ruleP i % 8 by unfold phaseN; rw [if_pos rfl]; omega]
    rfl
set_option maxRecDepth 1000000 in
set_option maxHeartbeats 8000000 in
theorem Follow_any (A B : Option Addr) (k d : Nat) (c : C) (l : List M) (w : World) (HT : Hid (Laid w)) (h : RdG w A c.gates) (hk : c.gates.length ≤ k) (h' : RdM w B l) :
    Calls Tryz.prog 29 #[.agg #[.int .i64 c.wires, .int .i64 c.bits, .slice A c.gates.length k], .slice B l.length d] w (RetC (FollowR c l) w) := by
  have HH := Lib.hid (And.intro h h')
  clear h h'
  go_enter Tryz.func29, Tryz.ntmps29
  go_upto_region 1 with fail
  obtain ⟨W1, hW1⟩ : ∃ W1, (w.alloc (.cells #[.int .i64 c.wires, .int .i64 c.bits, .slice A c.gates.length k] 24)).alloc (.cells #[.int .i64 0, .int .i64 0, .slice none 0 0] 24) = W1 := ⟨_, rfl⟩
  have hb01 : Below w.heap.size w W1 := by rw [← hW1]; (repeat (first|exact bR _ _|assumption|apply bN|apply bA|apply bD))
  have p0 : W1.heap[w.heap.size]? = some (.cells #[.int .i64 c.wires, .int .i64 c.bits, .slice A c.gates.length k] 24) := by rw [← hW1]; exact alloc_old (blk_alloc _ _ _ rfl)
  have p2 : W1.heap[w.heap.size + 1]? = some (.cells #[.int .i64 0, .int .i64 0, .slice none 0 0] 24) := by rw [← hW1]; exact blk_alloc _ _ _ (by simp)
  rw [hW1]
  clear hW1
  obtain ⟨a0, a1, a2, af⟩ := cells3 p0
  have hp := plain_any A k c W1 (HH.out.1.bG hb01)
  go_wp2_with fail
  refine hp.mono ?_
  clear hp
  rintro e w2 ⟨rfl, hb⟩
  have hb0 := hb01.trans (hb.mono hb01.size)
  clear hb01 a0 a1 a2 af
  replace p0 := blk2 hb p0
  replace p2 := blk2 hb p2
  obtain ⟨a0, a1, a2, af⟩ := cells3 p0
  obtain ⟨r0, r1, r2, rf⟩ := cells3 p2
  clear hb
  by_cases hG : plainE c = 0
  · have ha := follow_any A B k d c l w2 (Lib.hid (HT.out.below hb0)) (HH.out.1.bG hb0) hk (HH.out.2.bM hb0) (plainE_good.1 hG)
    obtain ⟨⟨er, cc, ph⟩, hx⟩ : ∃ x, followR c l = x := ⟨_, rfl⟩
    have HXX := Lib.hid (show FollowR c l = (er, cc, ph) by unfold FollowR; rw [if_pos hG, hx])
    rw [hx] at ha
    rw [hG]
    clear hx hG
    dsimp only
    go_wp2_with fail
    refine ha.mono ?_
    clear ha
    rintro e w9 ⟨v, rfl, ho, hb⟩
    obtain ⟨A9, c9, rfl, _⟩ := ho.form'
    have hlt2 := blk_lt p2
    replace p2 := blk2 hb p2
    clear r0 r1 r2 rf
    obtain ⟨r0, r1, r2, rf⟩ := cells3 p2
    have HO := Lib.hid (And.intro p2 (And.intro (show Own 3 55 (w.heap.size + 1 + 1) w9 (.slice A9 cc.gates.length c9) cc.gates from ho.weak (by omega)) (hb0.trans (hb.mono hb0.size))))
    clear ho hb hb0 hlt2
    dsimp only
    go_wp2
    rw [HXX.out]
    refine bodyPost_ret (results_list (rs := [.cell 4 24, .tmp 5, .tmp 6]) rfl (by simp) (.cell (w.heap.size + 1) 24 _ _ _ rfl (set3 HO.out.1) Tryz.underlying24 rfl (by kernel_rfl) (.tmp (.tmp .nil)))) rfl
      ⟨.slice A9 cc.gates.length c9, rfl, ?_, ?_⟩
    · exact (((HO.out.2.1.setCell (by simp) _).setCell (by simp) _).setCell (by simp) _).weak (by omega)
    · exact ((HO.out.2.2.setCell (by first|(simp;done)|(simp;omega)|omega) _).setCell (by first|(simp;done)|(simp;omega)|omega) _).setCell (by first|(simp;done)|(simp;omega)|omega) _
  · have hne : (plainE c == 0) = false := by simpa using hG
    have hne2 : (plainE c != 0) = true := by simpa using hG
    have HP := Lib.hid (And.intro p2 hb0)
    have HXX := Lib.hid (show FollowR c l = (plainE c, zeroC, 0) by unfold FollowR; rw [if_neg hG])
    obtain ⟨q, hq⟩ : ∃ q, plainE c = q := ⟨_, rfl⟩
    rw [hq] at hne hne2 HXX ⊢
    clear hq hG
    go_wp2
    rw [HXX.out]
    exact bodyPost_ret (results_list (rs := [.cell 4 24, .tmp 5, .tmp 6]) rfl (by simp) (.cell (w.heap.size + 1) 24 _ _ _ rfl (set3 HP.out.1) Tryz.underlying24 rfl (by kernel_rfl) (.tmp (.tmp .nil)))) rfl
      ⟨_, rfl, own_nil _ _ _ _, ((HP.out.2.setCell (by first|(simp;done)|(simp;omega)|omega) _).setCell (by first|(simp;done)|(simp;omega)|omega) _).setCell (by first|(simp;done)|(simp;omega)|omega) _⟩
set_option maxRecDepth 100000 in
set_option maxHeartbeats 4000000 in
theorem rOwn_any (A : Option Addr) (n c : Nat) (xs : List G) (w : World) (h : RdG w A xs) (hn : xs.length = n) (hw : ∀ g ∈ xs, g.wires.length ≤ 1000000) (hl : xs.length ≤ 1000000) :
    Calls Tryz.prog 69 #[.slice A n c] w fun e w' => ∃ v, e = .returned v ∧ Own 3 55 w.heap.size w' v xs ∧ Below w.heap.size w w' := by
  subst hn
  have HR := Lib.hid h
  have HW := Lib.hid hw
  clear hw h
  go_enter Tryz.func69, Tryz.ntmps69
  go_wp2
  go_loopw [3, 8] (fun v i wr => ∃ k : Nat, k ≤ xs.length ∧ i = .int .i64 k ∧ Hid (Own 3 55 w.heap.size wr v (xs.take k)) ∧ Below w.heap.size w wr) (fun _ i _ => xs.length - (intOf i).toNat)
  case atStart => exact ⟨0, Nat.zero_le _, rfl, Lib.hid ⟨[], by simp, List.Pairwise.nil, App.nil _ _ _ _ _⟩, Below.refl _ _⟩
  case round =>
    obtain ⟨k, hk, rfl, HO, hB⟩ := hrel
    by_cases hlt : k < xs.length
    · obtain ⟨b, o, B2, c2, rfl, g0, g1, g2, g3, hc2, hr2⟩ := (HR.out.bG hB).gate k hlt
      obtain ⟨g, hg⟩ : ∃ g, xs[k] = g := ⟨_, rfl⟩
      rw [hg] at g0 g1 g2 g3 hc2 hr2
      have hwg : g.wires.length ≤ 1000000 := HW.out g (hg ▸ List.getElem_mem hlt)
      obtain ⟨ps, hps, hd, ho⟩ := HO.out
      obtain rfl : ps.length = k := by have := congrArg List.length hps; simp at this; omega
      obtain ⟨A5, c5, rfl, hc5⟩ := ho.form
      have HG := Lib.hid (And.intro hg (And.intro hps hd))
      have HA := Lib.hid ho
      have HRI := Lib.hid hr2
      have hold := olds wr
      have lb := cell_lt g0
      clear hg hps hd ho hr2
      go_upto_region 5 with fail
      obtain ⟨w1, hw1⟩ : ∃ w1, wr.alloc (.cells #[.int .i64 g.kind, .slice B2 g.wires.length c2, .int .i64 g.bit, .int .i64 g.cif] 55) = w1 := ⟨_, rfl⟩
      have hb1 : Below wr.heap.size wr w1 := by rw [← hw1]; (repeat (first|exact bR _ _|assumption|apply bN|apply bA|apply bD))
      have hz1 : w1.heap.size = wr.heap.size + 1 := by rw [← hw1]; simp
      have p0 : w1.heap[wr.heap.size]? = some (.cells #[.int .i64 g.kind, .slice B2 g.wires.length c2, .int .i64 g.bit, .int .i64 g.cif] 55 (0, 0)) := by rw [← hw1]; exact blk_alloc _ _ _ rfl
      rw [hw1]
      clear hw1 hold g0 g1 g2 g3 lb
      obtain ⟨k0, k1, k2, k3, kf⟩ := cells4 p0
      have hl1 := blk_lt p0
      have hold := olds w1
      have HZ1 := Lib.hid hz1
      have hz1' : wr.heap.size + 1 ≤ w1.heap.size := by omega
      clear hz1
      have HE := Lib.hid (show App EI 3 1 (wr.heap.size + 1) (w1.alloc (.cells #[] 3)) (.slice (some ⟨w1.heap.size, 0, none⟩) 0 0) [] from App.empty _ _ _ _ _ (by omega))
      go_upto_region 6 with (at_builtin; refine wp_apps (E := EI) (E' := EI) EI.one (fun _ _ h => h) 3 1 (wr.heap.size + 1) rfl _ _ 25 (.int .i64 0) 8 rfl Tryz.underlying25 (by kernel_rfl) rfl (by decide) (by decide) (.slice (some ⟨w1.heap.size, 0, none⟩) 0 0) [] g.wires B2 c2 rfl rfl (HRI.out.bI (by (repeat (first|exact bR _ _|assumption|apply bN|apply bA|apply bD)))) HE.out (by simp; omega) (by simp; omega) (fun _ _ _ _ _ _ _ h => h) ?_; intro v2 w3 ho2 hg2; obtain ⟨A3, c3, hv2, hc3⟩ := ho2.form; rw [List.nil_append] at hv2 ho2; subst hv2; have q0 : w3.heap[wr.heap.size]? = some (.cells #[.int .i64 g.kind, .slice B2 g.wires.length c2, .int .i64 g.bit, .int .i64 g.cif] 55 (0, 0)) := (hg2.block _ (by simp; omega) (fun e => (show wr.heap.size ≠ w1.heap.size by omega) (by simpa [Value.ownBlock] using e))).trans (alloc_old p0); obtain ⟨q1, q2, q3, q4, qf⟩ := cells4 q0; have HQ := Lib.hid (And.intro q0 (And.intro ho2 hg2)); clear q0 ho2 hg2)
      obtain ⟨w4, hw4⟩ : ∃ w4, w3.setCell ⟨wr.heap.size, 1, none⟩ (.slice A3 g.wires.length c3) = w4 := ⟨_, rfl⟩
      have hs3 := HQ.out.2.2.size
      simp only [World.size_alloc] at hs3
      have hz4 : w4.heap.size = w3.heap.size := by rw [← hw4]; simp
      have p4 : w4.heap[wr.heap.size]? = some (.cells #[.int .i64 g.kind, .slice A3 g.wires.length c3, .int .i64 g.bit, .int .i64 g.cif] 55 (0, 0)) := by rw [← hw4]; exact heap_setCell_same _ _ 1 _ _ _ HQ.out.1
      have hin : App EI 3 1 (wr.heap.size + 1) w4 (.slice A3 g.wires.length c3) g.wires := by rw [← hw4]; exact HQ.out.2.1.setCell (by simp) _
      have hb4 : Below wr.heap.size wr w4 := by
        rw [← hw4]
        exact (HE.out.grows HQ.out.2.2 (hb1.trans ((below_alloc (Below.refl _ _) _).mono (by omega))) (by omega) (by simp; omega)).setCell (Nat.le_refl _) _
      have HD := Lib.hid (And.intro (HG.out.2.2.new (g := g) HA.out hin (by omega)) (And.intro hin hb4))
      obtain ⟨q1, q2, q3, q4, qf⟩ := cells4 p4
      have hbw := hB.size
      have HZ4 := Lib.hid hz4
      have hz4' : w3.heap.size ≤ w4.heap.size := by omega
      rw [hw4]
      clear hw4 hin hb4 p4 hz4 hold
      have hold := olds w4
      go_wp2_with (at_builtin; refine wp_app (E := EGv 3 w.heap.size) (W := w4) 55 4 w.heap.size rfl _ _ 22 (.agg #[.int .i64 0, .slice none 0 0, .int .i64 0, .int .i64 0]) 48 rfl Tryz.underlying22 (by kernel_rfl) rfl (by decide) (by decide) (.slice A5 ps.length c5) ps (g, .slice A3 g.wires.length c3) [.int .i64 g.kind, .slice A3 g.wires.length c3, .int .i64 g.bit, .int .i64 g.cif] rfl rfl rfl (by simp [Value.oneCell']) ⟨rfl, HD.out.2.1.imp (by omega) (fun _ _ h => h)⟩ (HA.out.below (EGv.stays _ _) HD.out.2.2) (by omega) (by omega) (fun _ _ _ h1 h2 _ _ h => h.other h1 h2 (by decide)) ?_; intro v5 w5 ho5 hg5; have HO5 := Lib.hid (And.intro ho5 hg5); clear ho5 hg5)
      go_roundw
      case rel =>
        refine ⟨ps.length + 1, by omega, by go_num, Lib.hid ⟨_, ?_, HD.out.1, HO5.out.1⟩, (HA.out.below (EGv.stays _ _) HD.out.2.2).grows HO5.out.2 (hB.trans (HD.out.2.2.mono hB.size)) (Nat.le_refl _) (by omega)⟩
        rw [List.map_append, HG.out.2.1, List.take_succ_eq_append_getElem hlt, HG.out.1]; rfl
      case measure => simp [intOf]; omega
    · have HO3 := Lib.hid (show Own 3 55 w.heap.size wr u3 xs from by
        have := HO.out
        rwa [List.take_of_length_le (by omega)] at this)
      go_wp2
      go_ret
      exact ⟨_, rfl, HO3.out, hB⟩
theorem followS_good : ∀ {l : List M} {c cc : C} {p ph : Int}, Good c → followS c p l = (0, cc, ph) → Good cc ∧ cc.wires = c.wires ∧ cc.bits = c.bits
  | [], c, cc, p, ph, h, e => by
    unfold followS at e
    simp only [Prod.mk.injEq] at e
    obtain ⟨_, rfl, _⟩ := e
    exact ⟨h, rfl, rfl⟩
  | s :: l, c, cc, p, ph, h, e => by
    unfold followS at e
    split at e
    · rename_i h0
      obtain ⟨h1, h2, h3⟩ := step_good h (show applyR c s = (0, (applyR c s).2.1, (applyR c s).2.2) by rw [← h0])
      obtain ⟨k1, k2, k3⟩ := followS_good h1 e
      exact ⟨k1, k2.trans h2, k3.trans h3⟩
    · rename_i h0
      simp only [Prod.mk.injEq] at e
      exact absurd e.1 h0
theorem FollowR_good {c cc : C} {l : List M} {ph : Int} (h : FollowR c l = (0, cc, ph)) : Good c ∧ Good cc ∧ cc.wires = c.wires ∧ cc.bits = c.bits := by
  unfold FollowR at h
  split at h
  · rename_i h0
    have hG := plainE_good.1 h0
    unfold followR at h
    split at h
    · simp only [Prod.mk.injEq] at h; cases h.1
    · exact ⟨hG, followS_good hG h⟩
  · rename_i h0
    simp only [Prod.mk.injEq] at h
    exact absurd h.1 h0
def CheckR (c : C) (l : List M) (d : C) : Int × Int :=
  if check c ≠ 0 then (0, check c) else if check d ≠ 0 then (0, check d) else
  if (FollowR c l).1 ≠ 0 then (0, (FollowR c l).1) else if (FollowR c l).2.1 = d then ((FollowR c l).2.2, 0) else (0, 14)
set_option maxRecDepth 1000000 in
set_option maxHeartbeats 8000000 in
theorem rCheck_any (A B D : Option Addr) (k m n : Nat) (c d : C) (l : List M) (w : World) (HT : Hid (Laid w)) (h : RdG w A c.gates) (hk : c.gates.length ≤ k) (h' : RdM w B l) (h'' : RdG w D d.gates) :
    Calls Tryz.prog 30 #[.agg #[.int .i64 c.wires, .int .i64 c.bits, .slice A c.gates.length k], .slice B l.length m, .agg #[.int .i64 d.wires, .int .i64 d.bits, .slice D d.gates.length n]] w fun e w' => e = .returned (.tuple #[.int .i64 (CheckR c l d).1, .int .i64 (CheckR c l d).2]) ∧ Below w.heap.size w w' := by
  have HH := Lib.hid (And.intro h (And.intro h' h''))
  clear h h' h''
  go_enter Tryz.func30, Tryz.ntmps30
  go_wp2_with fail
  obtain ⟨W1, hW1⟩ : ∃ W1, (((w.alloc (.cells #[.int .i64 c.wires, .int .i64 c.bits, .slice A c.gates.length k] 24)).alloc (.cells #[.int .i64 d.wires, .int .i64 d.bits, .slice D d.gates.length n] 24)).alloc (.cells #[.int .i64 c.wires, .int .i64 c.bits, .slice A c.gates.length k, .int .i64 d.wires, .int .i64 d.bits, .slice D d.gates.length n] 24)) = W1 := ⟨_, rfl⟩
  have hb01 : Below w.heap.size w W1 := by rw [← hW1]; (repeat (first|exact bR _ _|assumption|apply bN|apply bA|apply bD))
  have p0 : W1.heap[w.heap.size]? = some (.cells #[.int .i64 c.wires, .int .i64 c.bits, .slice A c.gates.length k] 24) := by rw [← hW1]; exact alloc_old (alloc_old (blk_alloc _ _ _ rfl))
  have p1 : W1.heap[w.heap.size + 1]? = some (.cells #[.int .i64 d.wires, .int .i64 d.bits, .slice D d.gates.length n] 24) := by rw [← hW1]; exact alloc_old (blk_alloc _ _ _ (by simp))
  have p2 : W1.heap[w.heap.size + 1 + 1]? = some (.cells #[.int .i64 c.wires, .int .i64 c.bits, .slice A c.gates.length k, .int .i64 d.wires, .int .i64 d.bits, .slice D d.gates.length n] 24) := by rw [← hW1]; exact blk_alloc _ _ _ (by simp)
  rw [hW1]
  clear hW1
  have HS := Lib.hid (show (1 ≤ 0 → check c = 0) ∧ (2 ≤ 0 → check d = 0) ∧ W1.heap[w.heap.size + 1 + 1]? = some (.cells #[.int .i64 c.wires, .int .i64 c.bits, .slice A c.gates.length k, .int .i64 d.wires, .int .i64 d.bits, .slice D d.gates.length n] 24 (0, 0)) ∧ W1.heap[w.heap.size]? = some (.cells #[.int .i64 c.wires, .int .i64 c.bits, .slice A c.gates.length k] 24 (0, 0)) ∧ W1.heap[w.heap.size + 1]? = some (.cells #[.int .i64 d.wires, .int .i64 d.bits, .slice D d.gates.length n] 24 (0, 0)) ∧ Below w.heap.size w W1 from ⟨by omega, by omega, p2, p0, p1, hb01⟩)
  clear p0 p1 p2 hb01
  go_loopw [9, 10, 18] (fun _ _ i wr => ∃ j : Nat, j ≤ 2 ∧ i = .int .i64 j ∧ Hid ((1 ≤ j → check c = 0) ∧ (2 ≤ j → check d = 0) ∧ wr.heap[w.heap.size + 1 + 1]? = some (.cells #[.int .i64 c.wires, .int .i64 c.bits, .slice A c.gates.length k, .int .i64 d.wires, .int .i64 d.bits, .slice D d.gates.length n] 24 (0, 0)) ∧ wr.heap[w.heap.size]? = some (.cells #[.int .i64 c.wires, .int .i64 c.bits, .slice A c.gates.length k] 24 (0, 0)) ∧ wr.heap[w.heap.size + 1]? = some (.cells #[.int .i64 d.wires, .int .i64 d.bits, .slice D d.gates.length n] 24 (0, 0)) ∧ Below w.heap.size w wr)) (fun _ _ i _ => 2 - (intOf i).toNat)
  case atStart => exact ⟨0, by omega, rfl, HS⟩
  case round =>
    obtain ⟨j, hj, rfl, HI⟩ := hrel
    rcases (show j = 0 ∨ j = 1 ∨ j = 2 by omega) with rfl | rfl | rfl
    · skip
      obtain ⟨e1, e2, e3, e4, e5, e6⟩ := HI.out
      have g0 : wr.cell? ⟨w.heap.size + 1 + 1, 0, none⟩ = some (.int .i64 c.wires) := by rw [cell_of_row _ _ 0 _ _ (0, 0) e3]; rfl
      have g1 : wr.cell? ⟨w.heap.size + 1 + 1, 1, none⟩ = some (.int .i64 c.bits) := by rw [cell_of_row _ _ 1 _ _ (0, 0) e3]; rfl
      have g2 : wr.cell? ⟨w.heap.size + 1 + 1, 2, none⟩ = some (.slice A c.gates.length k) := by rw [cell_of_row _ _ 2 _ _ (0, 0) e3]; rfl
      have hx1 : ∀ o, Below w.heap.size w (wr.alloc o) := fun o => by (repeat (first|exact bR _ _|assumption|apply bN|apply bA|apply bD))
      have hx2 : ∀ o, Below wr.heap.size wr (wr.alloc o) := fun o => by (repeat (first|exact bR _ _|assumption|apply bN|apply bA|apply bD))
      have hl2 := blk_lt e3
      have hold := olds wr
      have hc := Check_any A k c (wr.alloc (.cells #[.int .i64 c.wires, .int .i64 c.bits, .slice A c.gates.length k] 24)) (HH.out.1.bG (hx1 _))
      obtain ⟨q, hq⟩ : ∃ q, check c = q := ⟨_, rfl⟩
      rw [hq] at hc
      have HX := Lib.hid (And.intro hx1 hx2)
      clear e1 e2 e3 e4 e5 e6 hx1 hx2
      go_wp2_with fail
      refine hc.mono ?_
      clear hc
      rintro e w2 ⟨rfl, hb⟩
      have hbr : Below wr.heap.size wr w2 := (HX.out.2 _).trans (hb.mono (by simp))
      have hb0 := HI.out.2.2.2.2.2.trans (hbr.mono HI.out.2.2.2.2.2.size)
      clear hb g0 g1 g2 hold
      by_cases hq0 : q = 0
      · subst hq0
        have HQ := Lib.hid hq
        clear hq
        go_wp2
        go_roundw
        case rel => exact ⟨0 + 1, by omega, by go_num, Lib.hid ⟨fun h => by exact HQ.out, fun h => by omega, blk2 hbr HI.out.2.2.1, blk2 hbr HI.out.2.2.2.1, blk2 hbr HI.out.2.2.2.2.1, hb0⟩⟩
        case measure => simp [intOf]
      · have hne : (q != 0) = true := by simpa using hq0
        have HQ := Lib.hid (And.intro hq hq0)
        clear hq hq0
        go_wp2
        go_ret2
        exact ⟨by rw [show CheckR c l d = (0, q) by unfold CheckR; rw [HQ.out.1, if_pos HQ.out.2]]; rfl, hb0⟩
    · skip
      obtain ⟨e1, e2, e3, e4, e5, e6⟩ := HI.out
      have g0 : wr.cell? ⟨w.heap.size + 1 + 1, 3, none⟩ = some (.int .i64 d.wires) := by rw [cell_of_row _ _ 3 _ _ (0, 0) e3]; rfl
      have g1 : wr.cell? ⟨w.heap.size + 1 + 1, 4, none⟩ = some (.int .i64 d.bits) := by rw [cell_of_row _ _ 4 _ _ (0, 0) e3]; rfl
      have g2 : wr.cell? ⟨w.heap.size + 1 + 1, 5, none⟩ = some (.slice D d.gates.length n) := by rw [cell_of_row _ _ 5 _ _ (0, 0) e3]; rfl
      have hx1 : ∀ o, Below w.heap.size w (wr.alloc o) := fun o => by (repeat (first|exact bR _ _|assumption|apply bN|apply bA|apply bD))
      have hx2 : ∀ o, Below wr.heap.size wr (wr.alloc o) := fun o => by (repeat (first|exact bR _ _|assumption|apply bN|apply bA|apply bD))
      have hl2 := blk_lt e3
      have hold := olds wr
      have hc := Check_any D n d (wr.alloc (.cells #[.int .i64 d.wires, .int .i64 d.bits, .slice D d.gates.length n] 24)) (HH.out.2.2.bG (hx1 _))
      obtain ⟨q, hq⟩ : ∃ q, check d = q := ⟨_, rfl⟩
      rw [hq] at hc
      have HX := Lib.hid (And.intro hx1 hx2)
      clear e1 e2 e3 e4 e5 e6 hx1 hx2
      go_wp2_with fail
      refine hc.mono ?_
      clear hc
      rintro e w2 ⟨rfl, hb⟩
      have hbr : Below wr.heap.size wr w2 := (HX.out.2 _).trans (hb.mono (by simp))
      have hb0 := HI.out.2.2.2.2.2.trans (hbr.mono HI.out.2.2.2.2.2.size)
      clear hb g0 g1 g2 hold
      by_cases hq0 : q = 0
      · subst hq0
        have HQ := Lib.hid hq
        clear hq
        go_wp2
        go_roundw
        case rel => exact ⟨1 + 1, by omega, by go_num, Lib.hid ⟨fun h => by exact HI.out.1 (by omega), fun h => by exact HQ.out, blk2 hbr HI.out.2.2.1, blk2 hbr HI.out.2.2.2.1, blk2 hbr HI.out.2.2.2.2.1, hb0⟩⟩
        case measure => simp [intOf]
      · have hne : (q != 0) = true := by simpa using hq0
        have HQ := Lib.hid (And.intro hq hq0)
        clear hq hq0
        go_wp2
        go_ret2
        exact ⟨by rw [show CheckR c l d = (0, q) by unfold CheckR; rw [if_neg (by rw [HI.out.1 (by omega)]; simp), HQ.out.1, if_pos HQ.out.2]]; rfl, hb0⟩
    · obtain ⟨e1, e2, e3, e4, e5, e6⟩ := HI.out
      obtain ⟨a0, a1, a2, af⟩ := cells3 e4
      have hfo := Follow_any A B k m c l wr (Lib.hid (HT.out.below e6)) (HH.out.1.bG e6) hk (HH.out.2.1.bM e6)
      obtain ⟨⟨er, cc, ph⟩, hx⟩ : ∃ x, FollowR c l = x := ⟨_, rfl⟩
      rw [hx] at hfo
      clear e1 e2 e3 e4 e5 e6
      go_wp2_with fail
      refine hfo.mono ?_
      clear hfo
      rintro e w2 ⟨v, rfl, ho, hb⟩
      obtain ⟨A9, c9, rfl, _⟩ := ho.form'
      have q1 := blk2 hb HI.out.2.2.2.2.1
      obtain ⟨b0, b1, b2, bf⟩ := cells3 q1
      have hb0 := HI.out.2.2.2.2.2.trans (hb.mono HI.out.2.2.2.2.2.size)
      have hl2 := blk_lt q1
      have hold := olds w2
      have hx1 : ∀ o, Below w.heap.size w (w2.alloc o) := fun o => by (repeat (first|exact bR _ _|assumption|apply bN|apply bA|apply bD))
      have hx2 : ∀ o, Below w2.heap.size w2 (w2.alloc o) := fun o => by (repeat (first|exact bR _ _|assumption|apply bN|apply bA|apply bD))
      have HX := Lib.hid (And.intro hx1 hx2)
      clear hb hx1 hx2
      by_cases he : er = 0
      · subst he
        have hg := FollowR_good hx
        dsimp only at ho
        obtain ⟨_, _, hy, hc3, hr3⟩ := ho.rd (by have := hg.2.1.len; omega) (fun g hg' => by have := hg.2.1.wires g hg'; omega)
        cases hy
        have hal := alike_any A9 D c9 n cc d (w2.alloc (.cells #[.int .i64 cc.wires, .int .i64 cc.bits, .slice A9 cc.gates.length c9] 24)) (hr3.bG (HX.out.2 _)) (HH.out.2.2.bG (HX.out.1 _))
        have HC := Lib.hid (show CheckR c l d = if cc = d then (ph, 0) else (0, 14) by
          unfold CheckR
          rw [if_neg (by rw [HI.out.1 (by omega)]; simp), if_neg (by rw [HI.out.2.1 (by omega)]; simp), hx]
          simp)
        clear hg hr3 hx ho
        obtain ⟨q, hq⟩ : ∃ q, decide (cc = d) = q := ⟨_, rfl⟩
        rw [hq] at hal
        dsimp only
        go_wp2_with fail
        refine hal.mono ?_
        clear hal
        rintro e w3 ⟨rfl, hb⟩
        have hbf := (HX.out.1 _).trans (hb.mono (HX.out.1 _).size)
        have HQ := Lib.hid hq
        clear hq hb hold
        cases q
        · go_wp2
          go_ret2
          exact ⟨by rw [HC.out, if_neg (by simpa using HQ.out)]; rfl, hbf⟩
        · go_wp2
          go_ret2
          exact ⟨by rw [HC.out, if_pos (by simpa using HQ.out)]; rfl, hbf⟩
      · have hne : (er != 0) = true := by simpa using he
        have HC := Lib.hid (show CheckR c l d = (0, er) by
          unfold CheckR
          rw [if_neg (by rw [HI.out.1 (by omega)]; simp), if_neg (by rw [HI.out.2.1 (by omega)]; simp), hx, if_pos he])
        clear hx he ho
        dsimp only
        go_wp2
        go_ret2
        exact ⟨by rw [HC.out]; rfl, HX.out.1 _⟩
end Go.Proofs.YtfommmijojfdbaaGreatDoor
