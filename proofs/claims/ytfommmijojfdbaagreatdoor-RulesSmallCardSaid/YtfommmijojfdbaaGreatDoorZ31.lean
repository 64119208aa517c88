/- Part 32 of the proof that 'spoondriftlaw19.RulesApplies' holds for every input; it has no condition beyond the statement's own. -/
import Derived.Test.YtfommmijojfdbaaGreatDoorZ29
set_option linter.all false
namespace Go.Proofs.YtfommmijojfdbaaGreatDoor
open Go.RowKit
def RetF (x : Int × C × Int) (w : World) (e : Ending) (w' : World) : Prop :=
  ∃ A c, e = .returned (.tuple #[.agg #[.int .i64 x.2.1.wires, .int .i64 x.2.1.bits, .slice A x.2.1.gates.length c], .int .i64 x.2.2, .int .i64 x.1]) ∧ x.2.1.gates.length ≤ c ∧ RdF w.heap.size w' A x.2.1.gates ∧ Below w.heap.size w w'
theorem RdF.nil (n : Nat) (w : World) : RdF n w none [] := fun _ _ => Rd.nil _ _ _ _
theorem App.rdF {n : Nat} {w : World} {A : Option Addr} {m c : Nat} {ps : List (G × Value)} (h : App (EGv 3 n) 55 4 n w (.slice A m c) ps) (hm : ps.length = m) (hl : ps.length ≤ 35184372088832) (hg : ∀ g ∈ ps.map Prod.fst, g.wires.length ≤ 35184372088832) : RdF n w A (ps.map Prod.fst) ∧ m ≤ c := by
  subst hm
  have hc : ps.length ≤ c := by
    obtain ⟨A', c', e, h'⟩ := h.form
    cases e
    exact h'
  refine ⟨fun W' hW => ?_, hc⟩
  obtain ⟨cs, ho, hr⟩ := h
  have hlt : ∀ {B n' : Nat} {e : TypeId} {sz : Nat} {v : Value} {xs : List Value}, w.ownsRow B e sz v n' xs → n ≤ B → ∀ k, v.ownBlock = some k → W'.heap[k]? = w.heap[k]? := fun ho hB k hk => hW k (Nat.le_trans hB (own_base ho k hk)) (ho.lt k hk).2
  have ho' := own_heap ho (hlt ho (Nat.le_refl _))
  obtain ⟨_, _, hx, _, hr'⟩ := App.rd (E := EG) (xs := ps.map Prod.fst) (T := 55) (sz := 4) (B := n) (w := W') (v := .slice A ps.length c) ⟨cs, by rw [List.length_map]; exact ho', by rw [List.length_map]; exact hr.1, fun j g hj => by
    rw [List.getElem?_map] at hj
    obtain ⟨p, hp, rfl⟩ := Option.map_eq_some_iff.1 hj
    obtain ⟨e, ci, hoi, hri⟩ := hr.2 j p hp
    have : EGv 3 n W' p ((cs.drop (j * 4)).take 4) := ⟨e, ci, own_heap hoi (hlt hoi (Nat.le_refl _)), hri⟩
    exact this.o.rd (hg _ (List.mem_map_of_mem (List.mem_of_getElem? hp)))⟩ (by rw [List.length_map]; exact hl)
  rw [List.length_map] at hx
  cases hx
  exact hr'
theorem RetC.f {x : Int × C × Int} {w : World} {e : Ending} {w' : World} (h : RetC x w e w') (hl : x.2.1.gates.length ≤ 1000000) (hg : ∀ g ∈ x.2.1.gates, g.wires.length ≤ 1000000) : RetF x w e w' := by
  obtain ⟨v, rfl, ho, hb⟩ := h
  obtain ⟨A, c, rfl, hc⟩ := ho.form'
  exact ⟨A, c, rfl, hc, (ho.rdF (by omega) (fun g hg' => by have := hg g hg'; omega)).1, hb⟩
theorem RdF.set3 {n n' b : Nat} {w : World} {A : Option Addr} {l : List G} (h : RdF n w A l) (hn : n' ≤ n) (hb : b < n) (u0 u1 u2 : Value) : RdF n' (((w.setCell ⟨b, 0, none⟩ u0).setCell ⟨b, 1, none⟩ u1).setCell ⟨b, 2, none⟩ u2) A l :=
  h.move hn (by simp) fun k hk _ => by
    have hne : k ≠ b := by omega
    rw [heap_setCell_other _ _ _ _ hne, heap_setCell_other _ _ _ _ hne, heap_setCell_other _ _ _ _ hne]
theorem stepX_small {c : C} {k : Nat} (hG : Good c) : (stepX c k).2.1.gates.length ≤ 1000000 ∧ ∀ g ∈ (stepX c k).2.1.gates, g.wires.length ≤ 1000000 := by
  unfold stepX
  split
  · exact ⟨by dsimp only; rw [swapG_length]; have := hG.len; omega, fun g hg => hG.wires g (mem_swapG hg)⟩
  · exact ⟨by simp [zeroC], fun g hg => by simp [zeroC] at hg⟩
theorem fromG_toG (i : Nat) (back : Bool) : fromG i back = toG i (!back) := by unfold fromG toG; cases back <;> rfl
theorem rule_plain (i : Nat) (hi : i < 44) (back : Bool) {m : Nat} (hm : (m : Int) = ruleW i) : (∀ g ∈ fromG i back, g.bit = 0 ∧ g.cif = 0 ∧ g.wires.length ≤ 100 ∧ ∀ k ∈ g.wires, 0 ≤ k ∧ k < (m : Int)) ∧ ∀ g ∈ toG i back, g.bit = 0 ∧ g.cif = 0 ∧ g.wires.length ≤ 100 ∧ ∀ k ∈ g.wires, 0 ≤ k ∧ k < (m : Int) := by
  have key : ∀ b, ∀ g ∈ toG i b, g.bit = 0 ∧ g.cif = 0 ∧ g.wires.length ≤ 100 ∧ ∀ k ∈ g.wires, 0 ≤ k ∧ k < (m : Int) := fun b g hg => by
    obtain ⟨h1, h2, h3, h4, h5, h6, h7⟩ := rule_good i hi b g hg
    have := arity_le g.kind
    exact ⟨h6, h7, by omega, fun k hk => by rw [hm]; exact h4 k hk⟩
  exact ⟨by rw [fromG_toG]; exact key _, key _⟩
theorem EGv.one (ti B : Nat) : One (EGv ti B) := by
  rintro w x cs ⟨rfl, h⟩
  obtain ⟨A, c, e, _⟩ := h.form
  rw [e]
  simp [Value.oneCell']
theorem applyR_err {c : C} {s : M} {n : Int} (h : moveE c s = n) (hn : n ≠ 0) : applyR c s = (n, zeroC, 0) := by
  unfold applyR
  rw [if_neg (by rw [h]; exact hn), h]
theorem z31t0 {p : Prop} (h : p := by
  exact bodyPost_ret (results_list (rs := [.cell 4 24, .tmp 5, .tmp 6]) rfl (by simp) (.cell (w.heap.size + 1 + 1) 24 _ _ _ rfl (set3 HP.out.1) Tryz.underlying24 rfl (by kernel_rfl) (.tmp (.tmp .nil)))) rfl ⟨_, _, rfl, Nat.le_refl _, RdF.nil _ _, ((HP.out.2.setCell (by first|(simp;done)|(simp;omega)|omega) _).setCell (by first|(simp;done)|(simp;omega)|omega) _).setCell (by first|(simp;done)|(simp;omega)|omega) _⟩) : p := h
set_option maxRecDepth 1000000 in
set_option maxHeartbeats 8000000 in
theorem rDone_any (A B : Option Addr) (k d : Nat) (c : C) (s : M) (w : World) (h : RdG w A c.gates) (hk : c.gates.length ≤ k) (h' : RdI w B s.wires) (hd : s.wires.length ≤ d) (hG : Good c) :
    Calls Tryz.prog 60 #[.agg #[.int .i64 c.wires, .int .i64 c.bits, .slice A c.gates.length k], .agg #[.int .i64 s.rule, .int .i64 s.at_, .bool s.back, .slice B s.wires.length d]] w (RetF (applyR c s) w) := by
  have hlen := hG.len
  have HH := Lib.hid (And.intro h (And.intro h' hG))
  have hwl := h'.1
  clear h h' hG
  go_enter Tryz.func60, Tryz.ntmps60
  go_upto_region 1 with fail
  obtain ⟨W1, hW1⟩ : ∃ W1, ((w.alloc (.cells #[.int .i64 c.wires, .int .i64 c.bits, .slice A c.gates.length k] 24)).alloc (.cells #[.int .i64 s.rule, .int .i64 s.at_, .bool s.back, .slice B s.wires.length d] 27)).alloc (.cells #[.int .i64 0, .int .i64 0, .slice none 0 0] 24) = W1 := ⟨_, rfl⟩
  have hb1 : Below w.heap.size w W1 := by rw [← hW1]; (repeat (first|exact bR _ _|assumption|apply bN|apply bA|apply bD))
  have hz1 : w.heap.size + 3 ≤ W1.heap.size := by rw [← hW1]; simp
  have p0 : W1.heap[w.heap.size]? = some (.cells #[.int .i64 c.wires, .int .i64 c.bits, .slice A c.gates.length k] 24 (0, 0)) := by rw [← hW1]; exact alloc_old (alloc_old (blk_alloc _ _ _ rfl))
  have p1 : W1.heap[w.heap.size + 1]? = some (.cells #[.int .i64 s.rule, .int .i64 s.at_, .bool s.back, .slice B s.wires.length d] 27 (0, 0)) := by rw [← hW1]; exact alloc_old (blk_alloc _ _ _ (by simp))
  have p2 : W1.heap[w.heap.size + 1 + 1]? = some (.cells #[.int .i64 0, .int .i64 0, .slice none 0 0] 24 (0, 0)) := by rw [← hW1]; exact blk_alloc _ _ _ (by simp)
  rw [hW1]
  clear hW1
  obtain ⟨k0, k1, k2, kf⟩ := cells3 p0
  obtain ⟨m0, m1, m2, m3, mf⟩ := cells4 p1
  by_cases h1 : s.rule < 0 ∨ 44 ≤ s.rule
  · have t1 : decide (s.rule < 0) = false → decide (44 ≤ s.rule) = true := by simp; omega
    by_cases h0 : s.rule < 0
    · have t0 : decide (s.rule < 0) = true := by simpa using h0
      clear t1
      have HF := Lib.hid (show applyR c s = (1, zeroC, 0) from applyR_err (by unfold moveE; rw [if_pos h1]) (by decide))
      have HP := Lib.hid (And.intro p2 hb1)
      have hr := cells3 p2
      clear p0 p1 p2 hb1
      obtain ⟨r0, r1, r2, rf⟩ := hr
      go_wp2
      all_goals rw [HF.out]
      all_goals exact z31t0
    · have t0 : decide (s.rule < 0) = false := by simpa using h0
      have t2 := t1 t0
      have t2' : 44 ≤ s.rule := by omega
      clear t1
      have HF := Lib.hid (show applyR c s = (1, zeroC, 0) from applyR_err (by unfold moveE; rw [if_pos h1]) (by decide))
      have HP := Lib.hid (And.intro p2 hb1)
      have hr := cells3 p2
      clear p0 p1 p2 hb1
      obtain ⟨r0, r1, r2, rf⟩ := hr
      go_wp2
      all_goals rw [HF.out]
      all_goals exact z31t0
  have t1 : decide (s.rule < 0) = false := by rw [decide_eq_false_iff_not]; omega
  have t1' : ¬ s.rule < 0 := by omega
  have t2 : decide (44 ≤ s.rule) = false := by rw [decide_eq_false_iff_not]; omega
  have t2' : ¬ 44 ≤ s.rule := by omega
  by_cases h2 : s.at_ < 0 ∨ (c.gates.length : Int) < s.at_
  · by_cases h0 : s.at_ < 0
    · have t3 : decide (s.at_ < 0) = true := by simpa using h0
      have HF := Lib.hid (show applyR c s = (3, zeroC, 0) from applyR_err (by unfold moveE; rw [if_neg h1, if_pos h2]) (by decide))
      have HP := Lib.hid (And.intro p2 hb1)
      have hr := cells3 p2
      clear p0 p1 p2 hb1
      obtain ⟨r0, r1, r2, rf⟩ := hr
      go_wp2
      all_goals rw [HF.out]
      all_goals exact z31t0
    · have t3 : decide (s.at_ < 0) = false := by simpa using h0
      have t4 : decide ((c.gates.length : Int) < s.at_) = true := by rw [decide_eq_true_eq]; omega
      have t4' : (c.gates.length : Int) < s.at_ := by omega
      have HF := Lib.hid (show applyR c s = (3, zeroC, 0) from applyR_err (by unfold moveE; rw [if_neg h1, if_pos h2]) (by decide))
      have HP := Lib.hid (And.intro p2 hb1)
      have hr := cells3 p2
      clear p0 p1 p2 hb1
      obtain ⟨r0, r1, r2, rf⟩ := hr
      go_wp2
      all_goals rw [HF.out]
      all_goals exact z31t0
  have t3 : decide (s.at_ < 0) = false := by rw [decide_eq_false_iff_not]; omega
  have t3' : ¬ s.at_ < 0 := by omega
  have t4 : decide ((c.gates.length : Int) < s.at_) = false := by rw [decide_eq_false_iff_not]; omega
  have t4' : ¬ (c.gates.length : Int) < s.at_ := by omega
  obtain ⟨i, hi⟩ : ∃ i : Nat, s.rule = i := ⟨s.rule.toNat, by omega⟩
  obtain ⟨at_, hat⟩ : ∃ a : Nat, s.at_ = a := ⟨s.at_.toNat, by omega⟩
  obtain ⟨rl, sat, back, ws⟩ := s
  dsimp only at hi hat
  subst hi
  subst hat
  dsimp only at *
  have hi44 : i < 44 := by omega
  have hatl : at_ ≤ c.gates.length := by omega
  have H12 := Lib.hid (And.intro h1 h2)
  clear h1 h2 t1 t1' t2 t2' t3 t3' t4 t4'
  obtain ⟨t5, ht5⟩ : ∃ t, ((i : Int) != 43) = t := ⟨_, rfl⟩
  go_upto_if 42 with fail
  go_cut [7, 8, 9, 10] (fun x7 x8 x9 x10 wx => ∃ A1 c1 A2 c2, x7 = .slice A1 (fromG i back).length c1 ∧ x8 = .slice A2 (toG i back).length c2 ∧ x9 = .int .i64 (ruleW i) ∧ x10 = .int .i64 (phaseN i back) ∧ Hid ((fromG i back).length ≤ c1 ∧ (toG i back).length ≤ c2 ∧ RdG wx A1 (fromG i back) ∧ RdG wx A2 (toG i back)) ∧ Below W1.heap.size W1 wx)
  case first =>
    by_cases h43 : i = 43
    · subst h43
      have ht : t5 = false := by rw [← ht5]; decide
      subst ht
      go_wp2
      go_meet
      refine ⟨none, 0, none, 0, by rw [show fromG 43 back = [] by cases back <;> decide]; rfl, by rw [show toG 43 back = [] by cases back <;> decide]; rfl, by rw [show ruleW 43 = 0 by decide], by rw [show phaseN 43 back = 0 by cases back <;> decide], Lib.hid ⟨by rw [show fromG 43 back = [] by cases back <;> decide]; simp, by rw [show toG 43 back = [] by cases back <;> decide]; simp, by rw [show fromG 43 back = [] by cases back <;> decide]; exact Rd.nil _ _ _ _, by rw [show toG 43 back = [] by cases back <;> decide]; exact Rd.nil _ _ _ _⟩, Below.refl _ _⟩
    · have ht : t5 = true := by rw [← ht5]; simp; omega
      subst ht
      have hsi := rSides_any i (by omega) at_ back (.slice B ws.length d) ws.length d B rfl W1
      clear h43
      go_wp2_with fail
      refine hsi.mono ?_
      clear hsi
      rintro e w2 ⟨A1, c1, A2, c2, rfl, hc1, hc2, r1, r2, hb⟩
      have HQ := Lib.hid (And.intro (And.intro hc1 (And.intro hc2 (And.intro r1 r2))) hb)
      clear hc1 hc2 r1 r2 hb
      go_wp2
      go_meet
      exact ⟨A1, c1, A2, c2, rfl, rfl, rfl, rfl, Lib.hid HQ.out.1, HQ.out.2⟩
  case rest =>
  clear ht5 t5
  obtain ⟨A1, c1, A2, c2, rfl, rfl, rfl, rfl, HS, hbx⟩ := hcut
  replace p0 := blk2 hbx p0
  replace p1 := blk2 hbx p1
  replace p2 := blk2 hbx p2
  replace hb1 := hb1.trans (hbx.mono hb1.size)
  replace hz1 := Nat.le_trans hz1 hbx.size
  clear k0 k1 k2 kf m0 m1 m2 m3 mf hbx
  obtain ⟨k0, k1, k2, kf⟩ := cells3 p0
  obtain ⟨m0, m1, m2, m3, mf⟩ := cells4 p1
  by_cases h3 : (ws.length : Int) = ruleW i
  case neg =>
    have t5 : ((ws.length : Int) != ruleW i) = true := by simpa using h3
    have HF := Lib.hid (show applyR c ⟨i, at_, back, ws⟩ = (2, zeroC, 0) from applyR_err (by unfold moveE; rw [if_neg H12.out.1, if_neg H12.out.2]; dsimp only; rw [Int.toNat_natCast, if_pos h3]) (by decide))
    have HP := Lib.hid (And.intro p2 hb1)
    have hr := cells3 p2
    clear p0 p1 p2 hb1
    obtain ⟨r0, r1, r2, rf⟩ := hr
    go_wp2
    all_goals rw [HF.out]
    all_goals exact z31t0
  have t5 : ((ws.length : Int) != ruleW i) = false := by simpa using h3
  have HM := Lib.hid (show moveE c ⟨i, at_, back, ws⟩ = if ws.all (fun k => decide (0 ≤ k ∧ k < c.wires)) = false then 1 else if ¬ ws.Nodup then 5 else if (i : Int) = 43 ∧ back = true then 7 else 0 by
    unfold moveE
    rw [if_neg H12.out.1, if_neg H12.out.2]
    dsimp only
    rw [Int.toNat_natCast, if_neg (by rw [h3]; simp)])
  have hrd := HH.out.2.1.bI hb1
  have HW3 := Lib.hid h3
  have hwl3 : ws.length ≤ 3 := by have := (rule_ok i hi44).2.2; omega
  clear h3
  go_wp2
  go_loop [12, 59] (fun _ i => ∃ k : Nat, k ≤ ws.length ∧ i = .int .i64 k ∧ Hid ((ws.take k).all (fun n => decide (0 ≤ n ∧ n < c.wires)) = true)) (fun _ i => ws.length - (intOf i).toNat)
  case atStart => exact ⟨0, Nat.zero_le _, rfl, Lib.hid (by simp)⟩
  case round =>
    obtain ⟨j, hj, rfl, HI⟩ := hrel
    by_cases hlt : j < ws.length
    · obtain ⟨b, o, rfl, hx⟩ := hrd.int j hlt
      obtain ⟨y, hy⟩ : ∃ y, ws[j] = y := ⟨_, rfl⟩
      rw [hy] at hx
      clear hrd
      by_cases ho : 0 ≤ y ∧ y < c.wires
      · have HO := Lib.hid (And.intro ho hy)
        obtain ⟨ho1, ho2⟩ := ho
        have f1 : decide (y < 0) = false := by rw [decide_eq_false_iff_not]; omega
        have f1' : ¬ y < 0 := by omega
        have f2 : decide (c.wires ≤ y) = false := by rw [decide_eq_false_iff_not]; omega
        have f2' : ¬ c.wires ≤ y := by omega
        clear hy
        go_wp2
        go_round
        case rel => exact ⟨j + 1, by omega, by go_num, Lib.hid (by rw [List.take_succ_eq_append_getElem hlt, List.all_append, HI.out, HO.out.2]; simpa using HO.out.1)⟩
        case measure => simp [intOf]; omega
      · have HO := Lib.hid (show moveE c ⟨i, at_, back, ws⟩ = 1 by
          rw [HM.out, if_pos]
          rw [List.all_eq_false]
          exact ⟨_, List.getElem_mem hlt, by rw [hy]; simpa using ho⟩)
        clear hy
        by_cases f0 : y < 0
        · have f1 : decide (y < 0) = true := by simpa using f0
          clear ho
          have HF := Lib.hid (show applyR c ⟨i, at_, back, ws⟩ = (1, zeroC, 0) from applyR_err HO.out (by decide))
          have HP := Lib.hid (And.intro p2 hb1)
          have hr := cells3 p2
          clear p0 p1 p2 hb1
          obtain ⟨r0, r1, r2, rf⟩ := hr
          go_wp2
          all_goals rw [HF.out]
          all_goals exact z31t0
        · have f1 : decide (y < 0) = false := by simpa using f0
          have f2 : decide (c.wires ≤ y) = true := by rw [decide_eq_true_eq]; omega
          have f2' : c.wires ≤ y := by omega
          clear ho
          have HF := Lib.hid (show applyR c ⟨i, at_, back, ws⟩ = (1, zeroC, 0) from applyR_err HO.out (by decide))
          have HP := Lib.hid (And.intro p2 hb1)
          have hr := cells3 p2
          clear p0 p1 p2 hb1
          obtain ⟨r0, r1, r2, rf⟩ := hr
          go_wp2
          all_goals rw [HF.out]
          all_goals exact z31t0
    · have HA := Lib.hid (show ws.all (fun n => decide (0 ≤ n ∧ n < c.wires)) = true by have := HI.out; rwa [List.take_of_length_le (by omega)] at this)
      have HM2 := Lib.hid (show moveE c ⟨i, at_, back, ws⟩ = if ¬ ws.Nodup then 5 else if (i : Int) = 43 ∧ back = true then 7 else 0 by rw [HM.out, if_neg (by rw [HA.out]; simp)])
      clear HI HM
      go_wp2
      go_loop [13, 14, 15, 76] (fun _ _ _ i => ∃ k : Nat, k ≤ ws.length ∧ i = .int .i64 k ∧ Hid ((ws.take k).Nodup)) (fun _ _ _ i => ws.length - (intOf i).toNat)
      case atStart => exact ⟨0, Nat.zero_le _, rfl, Lib.hid (by simp)⟩
      case round =>
        rename Nat => jx
        obtain ⟨j, hj, rfl, HI⟩ := hrel
        by_cases hlt : j < ws.length
        · obtain ⟨b, o, rfl, hx⟩ := hrd.int j hlt
          obtain ⟨y, hy⟩ : ∃ y, ws[j] = y := ⟨_, rfl⟩
          have HY := Lib.hid hy
          rw [hy] at hx
          clear hy
          go_wp2
          go_loop [15] (fun i => ∃ k : Nat, k ≤ j ∧ i = .int .i64 k ∧ Hid (¬ y ∈ ws.take k)) (fun i => j - (intOf i).toNat)
          case atStart => exact ⟨0, Nat.zero_le _, rfl, Lib.hid (by simp)⟩
          case round =>
            obtain ⟨m, hm, rfl, HN⟩ := hrel
            by_cases hlm : m < j
            · have hlm2 : m < ws.length := by omega
              obtain ⟨b', o', hA, hx'⟩ := hrd.int m hlm2
              cases hA
              obtain ⟨z, hz⟩ : ∃ z, ws[m] = z := ⟨_, rfl⟩
              have HZ := Lib.hid hz
              rw [hz] at hx'
              clear hz
              by_cases he : z = y
              · have f1 : (z == y) = true := by simpa using he
                have HO := Lib.hid (show moveE c ⟨i, at_, back, ws⟩ = 5 by
                  rw [HM2.out, if_pos]
                  refine not_nodup_take j hlt ?_
                  rw [HY.out, ← he, List.mem_take_iff_getElem]
                  exact ⟨m, by omega, HZ.out⟩)
                clear he hrd
                have HF := Lib.hid (show applyR c ⟨i, at_, back, ws⟩ = (5, zeroC, 0) from applyR_err HO.out (by decide))
                have HP := Lib.hid (And.intro p2 hb1)
                have hr := cells3 p2
                clear p0 p1 p2 hb1
                obtain ⟨r0, r1, r2, rf⟩ := hr
                go_wp2
                all_goals rw [HF.out]
                all_goals exact z31t0
              · have f1 : (z == y) = false := by simpa using he
                have HE := Lib.hid (show ¬ ws[m] = y by rw [HZ.out]; exact he)
                clear he
                go_wp2
                go_round
                case rel => exact ⟨m + 1, by omega, by go_num, Lib.hid (by rw [List.take_succ_eq_append_getElem hlm2]; simp only [List.mem_append, List.mem_singleton]; exact fun h => h.elim HN.out fun h => HE.out h.symm)⟩
                case measure => simp [intOf]; omega
            · have HN2 := Lib.hid (show ¬ ws[j] ∈ ws.take j by have := HN.out; rw [show m = j by omega] at this; rw [HY.out]; exact this)
              clear HN
              go_wp2
              go_round
              case rel => exact ⟨j + 1, by omega, by go_num, Lib.hid (nodup_take_succ j hlt HI.out HN2.out)⟩
              case measure => simp [intOf]; omega
        · have HD := Lib.hid (show moveE c ⟨i, at_, back, ws⟩ = if (i : Int) = 43 ∧ back = true then 7 else 0 by
            have := HI.out
            rw [List.take_of_length_le (by omega)] at this
            rw [HM2.out, if_neg (by rw [Classical.not_not]; exact this)])
          clear HI HM2 HA
          by_cases h43 : i = 43
          · have t43 : ((i : Int) == 43) = true := by simp; omega
            have t43' : (i : Int) = 43 := by omega
            cases back
            case true =>
              have HO := Lib.hid (show moveE c ⟨i, at_, true, ws⟩ = 7 by rw [HD.out, if_pos ⟨t43', rfl⟩])
              clear h43 HD t43' hrd
              have HF := Lib.hid (show applyR c ⟨i, at_, true, ws⟩ = (7, zeroC, 0) from applyR_err HO.out (by decide))
              have HP := Lib.hid (And.intro p2 hb1)
              have hr := cells3 p2
              clear p0 p1 p2 hb1
              obtain ⟨r0, r1, r2, rf⟩ := hr
              go_wp2
              all_goals rw [HF.out]
              all_goals exact z31t0
            case false =>
              have hex := (rExch_any A k c at_ wc (HH.out.1.bG hb1) hk HH.out.2.2 hatl).mono (fun e w' h => h.f (stepX_small HH.out.2.2).1 (stepX_small HH.out.2.2).2)
              have HF := Lib.hid (show applyR c ⟨i, at_, false, ws⟩ = stepX c at_ by unfold applyR; rw [if_pos (by rw [HD.out, if_neg (by simp)])]; unfold stepR; dsimp only; rw [if_pos t43', Int.toNat_natCast])
              obtain ⟨⟨er, cc, ph⟩, hx⟩ : ∃ x, stepX c at_ = x := ⟨_, rfl⟩
              rw [hx] at hex HF
              clear hrd hx h43 HD t43'
              go_wp2_with fail
              refine hex.mono ?_
              clear hex
              rintro e w2 ⟨A3, c3, rfl, hc3, hrf, hb⟩
              dsimp only at hc3 hrf
              replace p2 := blk2 hb p2
              obtain ⟨r0, r1, r2, rf⟩ := cells3 p2
              have HP := Lib.hid (And.intro p2 (And.intro hc3 (And.intro hrf (hb1.trans (hb.mono hb1.size)))))
              clear p0 p1 p2 hb1 hb hc3 hrf k0 k1 k2 kf m0 m1 m2 m3 mf
              dsimp only
              go_wp2
              rw [HF.out]
              refine bodyPost_ret (results_list (rs := [.cell 4 24, .tmp 5, .tmp 6]) rfl (by simp) (.cell (w.heap.size + 1 + 1) 24 _ _ _ rfl (set3 HP.out.1) Tryz.underlying24 rfl (by kernel_rfl) (.tmp (.tmp .nil)))) rfl ?_
              exact ⟨A3, c3, rfl, HP.out.2.1, HP.out.2.2.1.set3 (by omega) (by omega) _ _ _, ((HP.out.2.2.2.setCell (by first|(simp;done)|(simp;omega)|omega) _).setCell (by first|(simp;done)|(simp;omega)|omega) _).setCell (by first|(simp;done)|(simp;omega)|omega) _⟩
          · have t43 : ((i : Int) == 43) = false := by simp; omega
            have t43' : ¬ (i : Int) = 43 := by omega
            have HF := Lib.hid (show applyR c ⟨i, at_, back, ws⟩ = stepN c i at_ back ws by
              unfold applyR
              rw [if_pos (by rw [HD.out, if_neg (by omega)])]
              unfold stepR
              dsimp only
              rw [if_neg (by omega), Int.toNat_natCast, Int.toNat_natCast])
            have HPL := Lib.hid (rule_plain i hi44 back (m := ws.length) HW3.out)
            have HSZ := Lib.hid (And.intro (from_wires i hi44 back).1 (to_wires i hi44 back).1)
            have HWS := Lib.hid hrd
            clear HD h43 hrd
            rename World => wa
            go_upto_region 30 with fail
            go_cut [7, 8] (fun x7 x8 wx => ∃ A3 c3 A4 c4, x7 = .slice A3 (fromOn i back ws).length c3 ∧ x8 = .slice A4 (toOn i back ws).length c4 ∧ Hid (Own 3 55 wa.heap.size wx (.slice A3 (fromOn i back ws).length c3) (fromOn i back ws) ∧ Own 3 55 wa.heap.size wx (.slice A4 (toOn i back ws).length c4) (toOn i back ws) ∧ Below wa.heap.size wa wx))
            case first =>
              go_region_with (first
                | (go_at_call_of 98 (Value.slice A1 (fromG i back).length c1); refine (rMoved_any A1 B (fromG i back).length c1 ws.length d (fromG i back) ws _ (HS.out.2.2.1.bG (by (repeat (first|exact bR _ _|assumption|apply bN|apply bA|apply bD)))) rfl (HWS.out.bI (by (repeat (first|exact bR _ _|assumption|apply bN|apply bA|apply bD)))) rfl HPL.out.1 (by have := HSZ.out.1; omega)).mono ?_; rintro e w3 ⟨v3, rfl, ho3, hb3⟩; obtain ⟨A3, c3, rfl, hc3⟩ := ho3.form'; have hbA : Below wa.heap.size wa w3 := Below.trans (show Below wa.heap.size wa _ by (repeat (first|exact bR _ _|assumption|apply bN|apply bA|apply bD))) (hb3.mono (by first | exact Nat.le_refl _ | (simp; done))); have m3' := kc hbA m3; have HA3 := Lib.hid ho3; clear ho3 hb3)
                | (go_at_call_of 98 (Value.slice A2 (toG i back).length c2); refine (rMoved_any A2 B (toG i back).length c2 ws.length d (toG i back) ws _ (HS.out.2.2.2.bG (hbA.trans ((show Below w3.heap.size w3 _ by (repeat (first|exact bR _ _|assumption|apply bN|apply bA|apply bD))).mono hbA.size))) rfl (HWS.out.bI (hbA.trans ((show Below w3.heap.size w3 _ by (repeat (first|exact bR _ _|assumption|apply bN|apply bA|apply bD))).mono hbA.size))) rfl HPL.out.2 (by have := HSZ.out.2; omega)).mono ?_; rintro e w4 ⟨v4, rfl, ho4, hb4⟩; obtain ⟨A4, c4, rfl, hc4⟩ := ho4.form'; have hbB : Below w3.heap.size w3 w4 := Below.trans (show Below w3.heap.size w3 _ by (repeat (first|exact bR _ _|assumption|apply bN|apply bA|apply bD))) (hb4.mono (by first | exact Nat.le_refl _ | (simp; done))); have HA4 := Lib.hid ho4; clear ho4 hb4))
              all_goals
                go_wp2_with fail
                go_meet
                exact ⟨A3, c3, A4, c4, by simp [fromOn], by simp [toOn], Lib.hid ⟨(HA3.out.below hbB).weak (by simp), HA4.out.weak (by have := hbA.size; simp; omega), hbA.trans (hbB.mono hbA.size)⟩⟩
            case rest =>
            obtain ⟨A3, c3, A4, c4, rfl, rfl, HO⟩ := hcut
            have hbx := HO.out.2.2
            replace p0 := blk2 hbx p0
            replace p1 := blk2 hbx p1
            replace p2 := blk2 hbx p2
            replace hb1 := hb1.trans (hbx.mono hb1.size)
            have hza := hbx.size
            clear k0 k1 k2 kf m0 m1 m2 m3 mf hbx
            obtain ⟨k0, k1, k2, kf⟩ := cells3 p0
            obtain ⟨m0, m1, m2, m3, mf⟩ := cells4 p1
            obtain ⟨L, hL⟩ : ∃ L, fromOn i back ws = L := ⟨_, rfl⟩
            obtain ⟨R, hR⟩ : ∃ R, toOn i back ws = R := ⟨_, rfl⟩
            have hLl : L.length ≤ 15 := by rw [← hL]; simpa [fromOn] using HSZ.out.1
            have hRl : R.length ≤ 15 := by rw [← hR]; simpa [toOn] using HSZ.out.2
            have hLw : ∀ g ∈ L, g.wires.length ≤ 100 := by
              rw [← hL]
              intro g hg
              obtain ⟨g0, hg0, rfl⟩ := List.mem_map.1 hg
              simpa [onG, onW] using (HPL.out.1 g0 hg0).2.2.1
            have hRw : ∀ g ∈ R, g.wires.length ≤ 100 := by
              rw [← hR]
              intro g hg
              obtain ⟨g0, hg0, rfl⟩ := List.mem_map.1 hg
              simpa [onG, onW] using (HPL.out.2 g0 hg0).2.2.1
            have HST := Lib.hid (show stepN c i at_ back ws = if (decide (c.gates.length < at_ + L.length) || !decide (L = (c.gates.drop at_).take L.length)) = true then (6, zeroC, 0) else if 120 < (c.gates.length : Int) + R.length - L.length then (11, zeroC, 0) else (0, ⟨c.wires, c.bits, c.gates.take at_ ++ R ++ c.gates.drop (at_ + L.length)⟩, phaseN i back) by
              unfold stepN notThere
              rw [hL, hR])
            rw [hL, hR] at HO ⊢
            have hwr6 : IntKind.i64.wrap ((at_ : Int) + (L.length : Int)) = (at_ : Int) + (L.length : Int) := IntWalk.i64_in _ (by omega)
            by_cases h6 : c.gates.length < at_ + L.length
            · have h6' : (c.gates.length : Int) < (at_ : Int) + (L.length : Int) := by omega
              have HO6 := Lib.hid (show applyR c ⟨i, at_, back, ws⟩ = (6, zeroC, 0) by rw [HF.out, HST.out, if_pos (by simp [h6])])
              clear h6 hL hR HF
              have HF := Lib.hid (show applyR c ⟨i, at_, back, ws⟩ = (6, zeroC, 0) from HO6.out)
              have HP := Lib.hid (And.intro p2 hb1)
              have hr := cells3 p2
              clear p0 p1 p2 hb1
              obtain ⟨r0, r1, r2, rf⟩ := hr
              go_wp2
              all_goals rw [HF.out]
              all_goals exact z31t0
            have h6' : ¬ (c.gates.length : Int) < (at_ : Int) + (L.length : Int) := by omega
            obtain ⟨_, _, hx3, hc3, hrd3⟩ := HO.out.1.rd (by omega) (fun g hg => by have := hLw g hg; omega)
            cases hx3
            have HRF := Lib.hid hrd3
            have hz2 := blk_lt p2
            clear hrd3 hL hR
            go_wp2
            go_loopw [16, 17, 128] (fun _ _ i wr => ∃ j : Nat, j ≤ L.length ∧ i = .int .i64 j ∧ Hid (L.take j = (c.gates.drop at_).take j) ∧ Below wc.heap.size wc wr) (fun _ _ i _ => L.length - (intOf i).toNat)
            case atStart => exact ⟨0, Nat.zero_le _, rfl, Lib.hid (by simp), Below.refl _ _⟩
            case round =>
              obtain ⟨j, hj, rfl, HI, hbw⟩ := hrel
              replace p0 := blk2 hbw p0
              replace p1 := blk2 hbw p1
              replace p2 := blk2 hbw p2
              replace hb1 := hb1.trans (hbw.mono hb1.size)
              have hzw := hbw.size
              have HBW := Lib.hid hbw
              clear k0 k1 k2 kf m0 m1 m2 m3 mf hbw
              obtain ⟨k0, k1, k2, kf⟩ := cells3 p0
              obtain ⟨m0, m1, m2, m3, mf⟩ := cells4 p1
              by_cases hlt : j < L.length
              · have hltc : at_ + j < c.gates.length := by omega
                obtain ⟨b, o, B0, d0, hA0, g0, g1, g2, g3, hd0, hr0⟩ := (HRF.out.bG HBW.out).gate j hlt
                subst hA0
                obtain ⟨b', o', B1, d1, hA1, i0, i1, i2, i3, hd1, hr1⟩ := (HH.out.1.bG hb1).gate (at_ + j) hltc
                subst hA1
                obtain ⟨g, hg⟩ : ∃ g, L[j] = g := ⟨_, rfl⟩
                obtain ⟨g', hg'⟩ : ∃ g, c.gates[at_ + j] = g := ⟨_, rfl⟩
                rw [hg] at g0 g1 g2 g3 hd0 hr0
                rw [hg'] at i0 i1 i2 i3 hd1 hr1
                have HG := Lib.hid (And.intro hg hg')
                have HR := Lib.hid (And.intro hr0 hr1)
                have hlp0 := blk_lt p0
                have hlp1 := blk_lt p1
                have hlp2 := blk_lt p2
                have hl1 := cell_lt g0
                have hl2 := cell_lt i0
                have hold := olds wr
                clear hg hg' hr0 hr1
                obtain ⟨q, hq⟩ : ∃ q, decide (g = g') = q := ⟨_, rfl⟩
                have hwr7 : IntKind.i64.wrap ((at_ : Int) + (j : Int)) = (at_ : Int) + (j : Int) := IntWalk.i64_in _ (by omega)
                have hpos7 : (0 : Int) ≤ (at_ : Int) + (j : Int) := by omega
                have hlt7 : (at_ : Int) + (j : Int) < (c.gates.length : Int) := by omega
                have hnat7 : ((at_ : Int) + (j : Int)).toNat = at_ + j := by omega
                go_upto_region 36 with fail
                refine wp_region_sg (by kernel_rfl) [0, 1, 2, 3, 4, 5, 6, 7, 8, 9, 10] (by kernel_rfl) (by kernel_rfl) (by kernel_rfl) ?_
                refine SG.l (v := ?v1_36_0) rfl rfl rfl ?h1_36_0 ?r1_36_0
                case h1_36_0 => (first|(go_simp;done)|(go_simp;with_reducible rfl))
                simp only [Act.put, pA, pB, pC]
                refine SG.p (v := ?v1_36_1) rfl rfl rfl (fun W => ?h1_36_1) ?r1_36_1
                case h1_36_1 => (first|(go_simp;done)|(go_simp;with_reducible rfl))
                simp only [Act.put, pA, pB, pC]
                refine SG.l (v := ?v1_36_2) rfl rfl rfl ?h1_36_2 ?r1_36_2
                case h1_36_2 => (first|(go_simp;done)|(go_simp;with_reducible rfl))
                simp only [Act.put, pA, pB, pC]
                refine SG.p (v := ?v1_36_3) rfl rfl rfl (fun W => ?h1_36_3) ?r1_36_3
                case h1_36_3 => (first|(go_simp;done)|(go_simp;with_reducible rfl))
                simp only [Act.put, pA, pB, pC]
                refine SG.l (v := ?v1_36_4) rfl rfl rfl ?h1_36_4 ?r1_36_4
                case h1_36_4 => (first|(go_simp;done)|(go_simp;with_reducible rfl))
                simp only [Act.put, pA, pB, pC]
                refine SG.p (v := ?v1_36_5) rfl rfl rfl (fun W => ?h1_36_5) ?r1_36_5
                case h1_36_5 => (first|(go_simp;done)|(go_simp;with_reducible rfl))
                simp only [Act.put, pA, pB, pC]
                refine SG.p (v := ?v1_36_6) rfl rfl rfl (fun W => ?h1_36_6) ?r1_36_6
                case h1_36_6 => (first|(go_simp;done)|(go_simp;with_reducible rfl))
                simp only [Act.put, pA, pB, pC]
                refine SG.p (v := ?v1_36_7) rfl rfl rfl (fun W => ?h1_36_7) ?r1_36_7
                case h1_36_7 => (first|(go_simp;done)|(go_simp;with_reducible rfl))
                simp only [Act.put, pA, pB, pC]
                refine SG.l (v := ?v1_36_8) rfl rfl rfl ?h1_36_8 ?r1_36_8
                case h1_36_8 => (first|(go_simp;done)|(go_simp;with_reducible rfl))
                simp only [Act.put, pA, pB, pC]
                refine SG.c rfl rfl rfl (by first|(go_simp;done)|(go_simp;with_reducible rfl)|(go_simp;exact ⟨⟨rfl, rfl⟩, rfl⟩)) ?_
                refine (rSameGate_any B0 B1 d0 d1 g g' _ (HR.out.1.bI (by (repeat (first|exact bR _ _|assumption|apply bN|apply bA|apply bD)))) (HR.out.2.bI (by (repeat (first|exact bR _ _|assumption|apply bN|apply bA|apply bD))))).mono ?_
                rintro e w2 ⟨rfl, hb2⟩
                rw [hq]
                have hbr : Below wr.heap.size wr w2 := Below.trans (show Below wr.heap.size wr _ by (repeat (first|exact bR _ _|assumption|apply bN|apply bA|apply bD))) (hb2.mono (by simp))
                replace p0 := blk2 hbr p0
                replace p1 := blk2 hbr p1
                replace p2 := blk2 hbr p2
                clear k0 k1 k2 kf m0 m1 m2 m3 mf
                obtain ⟨k0, k1, k2, kf⟩ := cells3 p0
                obtain ⟨m0, m1, m2, m3, mf⟩ := cells4 p1
                replace i0 := kc hbr i0
                replace i1 := kc hbr i1
                replace i2 := kc hbr i2
                replace i3 := kc hbr i3
                have x0 := kc hb2 (a := ⟨wr.heap.size, 0, none⟩) (v := (.int .i64 g.kind)) (by go_simp)
                have x1 := kc hb2 (a := ⟨wr.heap.size, 1, none⟩) (v := (.slice B0 g.wires.length d0)) (by go_simp)
                have x2 := kc hb2 (a := ⟨wr.heap.size, 2, none⟩) (v := (.int .i64 g.bit)) (by go_simp)
                have x3 := kc hb2 (a := ⟨wr.heap.size, 3, none⟩) (v := (.int .i64 g.cif)) (by go_simp)
                replace hb1 := hb1.trans (hbr.mono hb1.size)
                have HB2 := Lib.hid (HBW.out.trans (hbr.mono HBW.out.size))
                clear hb2 hbr
                refine ⟨_, rfl, ?_, ?_⟩
                · exact ⟨(nw (by kernel_rfl)), (fun _ => ⟨_, drop_at rfl, by (first|(go_simp;done)|(go_simp;with_reducible rfl))⟩), (fun _ => ⟨_, drop_at rfl, by (first|(go_simp;done)|(go_simp;with_reducible rfl))⟩), (nw (by kernel_rfl)), trivial⟩
                simp only [Act.put, pA, pB, pC]
                refine SG.p (v := ?v1_36_10) rfl rfl rfl (fun W => ?h1_36_10) ?r1_36_10
                case h1_36_10 => (first|(go_simp;done)|(go_simp;with_reducible rfl))
                simp only [Act.put, pA, pB, pC]
                simp only [SG]
                cases q
                · have HO6 := Lib.hid (show applyR c ⟨i, at_, back, ws⟩ = (6, zeroC, 0) by
                    rw [HF.out, HST.out, if_pos]
                    rw [Bool.or_eq_true]
                    right
                    rw [Bool.not_eq_true', decide_eq_false_iff_not]
                    intro e
                    rw [decide_eq_false_iff_not] at hq
                    apply hq
                    rw [← HG.out.1, ← HG.out.2]
                    have e2 := congrArg (fun l => l[j]?) e
                    simp only [List.getElem?_eq_getElem hlt, List.getElem?_take, if_pos hlt, List.getElem?_drop, List.getElem?_eq_getElem hltc] at e2
                    exact Option.some.inj e2)
                  clear hq x0 x1 x2 x3 i0 i1 i2 i3 g0 g1 g2 g3
                  have HF := Lib.hid (show applyR c ⟨i, at_, back, ws⟩ = (6, zeroC, 0) from HO6.out)
                  have HP := Lib.hid (And.intro p2 hb1)
                  have hr := cells3 p2
                  clear p0 p1 p2 hb1
                  obtain ⟨r0, r1, r2, rf⟩ := hr
                  go_wp2
                  all_goals rw [HF.out]
                  all_goals exact z31t0
                · have HQ := Lib.hid hq
                  clear hq x0 x1 x2 x3 i0 i1 i2 i3 g0 g1 g2 g3
                  go_wp2
                  go_roundw
                  case rel => exact ⟨j + 1, by omega, by go_num, Lib.hid (by
                    have h1 := HQ.out
                    rw [decide_eq_true_eq, ← HG.out.1, ← HG.out.2] at h1
                    rw [List.take_succ_eq_append_getElem hlt, HI.out, h1, List.take_succ_eq_append_getElem (show j < (c.gates.drop at_).length by rw [List.length_drop]; omega), List.getElem_drop]), HB2.out⟩
                  case measure => simp [intOf]; omega
              · have HST2 := Lib.hid (show stepN c i at_ back ws = if 120 < (c.gates.length : Int) + R.length - L.length then (11, zeroC, 0) else (0, ⟨c.wires, c.bits, c.gates.take at_ ++ R ++ c.gates.drop (at_ + L.length)⟩, phaseN i back) by
                  have h5 := HI.out
                  rw [List.take_of_length_le (by omega), show j = L.length by omega] at h5
                  rw [HST.out, if_neg]
                  rw [Bool.or_eq_true, not_or]
                  exact ⟨by simp; omega, by rw [← h5]; simp⟩)
                have HR := Lib.hid (HO.out.2.1.below HBW.out)
                go_upto_region 40 with fail
                obtain ⟨W5, hW5⟩ : ∃ W5, wr.alloc (.cells #[.int .i64 c.wires, .int .i64 c.bits, .slice none 0 0] 24) = W5 := ⟨_, rfl⟩
                have hb5 : Below wr.heap.size wr W5 := by rw [← hW5]; (repeat (first|exact bR _ _|assumption|apply bN|apply bA|apply bD))
                have p5 : W5.heap[wr.heap.size]? = some (.cells #[.int .i64 c.wires, .int .i64 c.bits, .slice none 0 0] 24 (0, 0)) := by rw [← hW5]; exact blk_alloc _ _ _ rfl
                rw [hW5]
                clear hW5 k0 k1 k2 kf m0 m1 m2 m3 mf
                replace p0 := blk2 hb5 p0
                replace p1 := blk2 hb5 p1
                replace p2 := blk2 hb5 p2
                replace hb1 := hb1.trans (hb5.mono hb1.size)
                have HR5 := Lib.hid (HR.out.below hb5)
                have hz5 := hb5.size
                clear hb5
                obtain ⟨k0, k1, k2, kf⟩ := cells3 p0
                obtain ⟨m0, m1, m2, m3, mf⟩ := cells4 p1
                obtain ⟨f0, f1, f2, ff⟩ := cells3 p5
                have hlp5 := blk_lt p5
                have hold := olds W5
                have hsl1 : (at_ : Int) ≤ (k : Int) := by omega
                have hsl2 : (at_ : Int) + (L.length : Int) ≤ (c.gates.length : Int) := by omega
                have hsl3 : (0 : Int) ≤ (at_ : Int) + (L.length : Int) := by omega
                have hsl4 : ((at_ : Int) + (L.length : Int)).toNat = at_ + L.length := by omega
                refine wp_region_sg (by kernel_rfl) [0, 1, 2, 3, 4, 6, 8, 9, 10, 11, 12, 13, 14, 15, 5, 7, 16, 17, 18, 19] (by kernel_rfl) (by kernel_rfl) (by kernel_rfl) ?_
                refine SG.p (v := ?v2_40_0) rfl rfl rfl (fun W => ?h2_40_0) ?r2_40_0
                case h2_40_0 => (first|(go_simp;done)|(go_simp;with_reducible rfl))
                simp only [Act.put, pA, pB, pC]
                refine SG.l (v := ?v2_40_1) rfl rfl rfl ?h2_40_1 ?r2_40_1
                case h2_40_1 => (first|(go_simp;done)|(go_simp;with_reducible rfl))
                simp only [Act.put, pA, pB, pC]
                refine SG.p (v := ?v2_40_2) rfl rfl rfl (fun W => ?h2_40_2) ?r2_40_2
                case h2_40_2 => (first|(go_simp;done)|(go_simp;with_reducible rfl))
                simp only [Act.put, pA, pB, pC]
                refine SG.l (v := ?v2_40_3) rfl rfl rfl ?h2_40_3 ?r2_40_3
                case h2_40_3 => (first|(go_simp;done)|(go_simp;with_reducible rfl))
                simp only [Act.put, pA, pB, pC]
                refine SG.p (v := ?v2_40_4) rfl rfl rfl (fun W => ?h2_40_4) ?r2_40_4
                case h2_40_4 => (first|(go_simp;done)|(go_simp;with_reducible rfl))
                simp only [Act.put, pA, pB, pC]
                refine SG.p (v := ?v2_40_6) rfl rfl rfl (fun W => ?h2_40_6) ?r2_40_6
                case h2_40_6 => (first|(go_simp;done)|(go_simp;with_reducible rfl))
                simp only [Act.put, pA, pB, pC]
                refine SG.p (v := ?v2_40_8) rfl rfl rfl (fun W => ?h2_40_8) ?r2_40_8
                case h2_40_8 => (first|(go_simp;done)|(go_simp;with_reducible rfl))
                simp only [Act.put, pA, pB, pC]
                refine SG.l (v := ?v2_40_9) rfl rfl rfl ?h2_40_9 ?r2_40_9
                case h2_40_9 => (first|(go_simp;done)|(go_simp;with_reducible rfl))
                simp only [Act.put, pA, pB, pC]
                refine SG.p (v := ?v2_40_10) rfl rfl rfl (fun W => ?h2_40_10) ?r2_40_10
                case h2_40_10 => (first|(go_simp;done)|(go_simp;with_reducible rfl))
                simp only [Act.put, pA, pB, pC]
                refine SG.l (v := ?v2_40_11) rfl rfl rfl ?h2_40_11 ?r2_40_11
                case h2_40_11 => (first|(go_simp;done)|(go_simp;with_reducible rfl))
                simp only [Act.put, pA, pB, pC]
                refine SG.p (v := ?v2_40_12) rfl rfl rfl (fun W => ?h2_40_12) ?r2_40_12
                case h2_40_12 => (first|(go_simp;done)|(go_simp;with_reducible rfl))
                simp only [Act.put, pA, pB, pC]
                refine SG.p (v := ?v2_40_13) rfl rfl rfl (fun W => ?h2_40_13) ?r2_40_13
                case h2_40_13 => (first|(go_simp;done)|(go_simp;with_reducible rfl))
                simp only [Act.put, pA, pB, pC]
                refine SG.p (v := ?v2_40_14) rfl rfl rfl (fun W => ?h2_40_14) ?r2_40_14
                case h2_40_14 => (first|(go_simp;done)|(go_simp;with_reducible rfl))
                simp only [Act.put, pA, pB, pC]
                refine SG.p (v := ?v2_40_15) rfl rfl rfl (fun W => ?h2_40_15) ?r2_40_15
                case h2_40_15 => (first|(go_simp;done)|(go_simp;with_reducible rfl))
                simp only [Act.put, pA, pB, pC]
                refine SG.c rfl rfl rfl (by first|(go_simp;done)|(go_simp;with_reducible rfl)|(go_simp;exact ⟨⟨rfl, rfl⟩, rfl⟩)) ?_
                refine (rOwn_any _ at_ k (c.gates.take at_) _ ((HH.out.1.bG (hb1.trans ((show Below W5.heap.size W5 W5.drew by (repeat (first|exact bR _ _|assumption|apply bN|apply bA|apply bD))).mono hb1.size))).take at_) (by rw [List.length_take]; omega) (fun g hg => HH.out.2.2.wires g (List.mem_of_mem_take hg)) (by rw [List.length_take]; omega)).mono ?_
                rintro e w6 ⟨v6, rfl, ⟨psA, hpsA, _, hoA⟩, hb6⟩
                have hbr6 : Below W5.heap.size W5 w6 := Below.trans (show Below W5.heap.size W5 W5.drew by (repeat (first|exact bR _ _|assumption|apply bN|apply bA|apply bD))) hb6
                have hlA : psA.length = at_ := by have := congrArg List.length hpsA; rw [List.length_map, List.length_take] at this; omega
                obtain ⟨A6, c6, hv6, hc6⟩ := hoA.form
                rw [hlA] at hv6
                subst hv6
                replace p0 := blk2 hbr6 p0
                replace p1 := blk2 hbr6 p1
                replace p2 := blk2 hbr6 p2
                replace p5 := blk2 hbr6 p5
                clear k0 k1 k2 kf m0 m1 m2 m3 mf f0 f1 f2 ff
                obtain ⟨k0, k1, k2, kf⟩ := cells3 p0
                obtain ⟨m0, m1, m2, m3, mf⟩ := cells4 p1
                obtain ⟨f0, f1, f2, ff⟩ := cells3 p5
                have HOA := Lib.hid (And.intro (show App (EGv 3 W5.heap.size) 55 4 W5.heap.size w6 (.slice A6 at_ c6) psA from hoA) (And.intro hpsA (And.intro hlA hbr6)))
                have hz6 := hbr6.size
                clear hoA hpsA hlA hb6 hbr6
                refine ⟨_, rfl, ?_, ?_⟩
                · exact ⟨(fun _ => ⟨_, drop_at rfl, by (first|(go_simp;done)|(go_simp;with_reducible rfl))⟩), (fun _ => ⟨_, drop_at rfl, by (first|(go_simp;done)|(go_simp;with_reducible rfl))⟩), (fun _ => ⟨_, drop_at rfl, by (first|(go_simp;done)|(go_simp;with_reducible rfl))⟩), (fun _ => ⟨_, drop_at rfl, by (first|(go_simp;done)|(go_simp;with_reducible rfl))⟩), trivial⟩
                simp only [Act.put, pA, pB, pC]
                obtain ⟨psR, hpsR, _, hoR⟩ := HR5.out
                have hlR : psR.length = R.length := by have := congrArg List.length hpsR; simpa using this
                obtain ⟨A4', c4', hx4, _, hRd⟩ := (hoR.below (EGv.stays _ _) HOA.out.2.2.2).rd (by omega)
                rw [hlR] at hx4
                cases hx4
                refine SG.apps (E := EGv 3 wa.heap.size) (E' := EGv 3 wa.heap.size) (W := w6) (EGv.one _ _) (fun _ _ h => h) 55 4 W5.heap.size rfl rfl _ _ 22 (.agg #[.int .i64 0, .slice none 0 0, .int .i64 0, .int .i64 0]) 48 rfl Tryz.underlying22 (by kernel_rfl) rfl (by decide) (by decide) (.slice A6 at_ c6) psA psR A4 c4 rfl (by rw [hlR]; rfl) hRd (HOA.out.1.imp (Nat.le_refl _) (fun _ _ h => h.weak (by omega))) hz6 (by have := HOA.out.2.2.1; omega) (fun _ _ _ h1 h2 _ _ h => h.other h1 h2 (by decide)) ?_
                intro v7 w7 ho7 hg7
                obtain ⟨A7, c7, hv7, hc7⟩ := ho7.form
                rw [List.length_append, HOA.out.2.2.1, hlR] at hv7 hc7
                subst hv7
                have hbr7 : Below W5.heap.size w6 w7 := HOA.out.1.grows hg7 (Below.refl _ _) (Nat.le_refl _) hz6
                have HB7 := Lib.hid (HOA.out.2.2.2.trans hbr7)
                have hbr7' : ∀ {b : Nat} {o : Obj}, b < W5.heap.size → w6.heap[b]? = some o → w7.heap[b]? = some o := fun hb ho => (hbr7.block _ hb).trans ho
                replace p0 := hbr7' (by omega) p0
                replace p1 := hbr7' (by omega) p1
                replace p2 := hbr7' (by omega) p2
                replace p5 := hbr7' hlp5 p5
                clear k0 k1 k2 kf m0 m1 m2 m3 mf f0 f1 f2 ff
                obtain ⟨k0, k1, k2, kf⟩ := cells3 p0
                obtain ⟨m0, m1, m2, m3, mf⟩ := cells4 p1
                obtain ⟨f0, f1, f2, ff⟩ := cells3 p5
                have HO7 := Lib.hid (And.intro ho7 (And.intro hpsR hlR))
                have hz7 := HB7.out.size
                clear ho7 hg7 hpsR hlR hoR hRd hbr7 hbr7'
                refine ⟨?_, ?_⟩
                · exact ⟨(fun _ => ⟨_, drop_at rfl, by (first|(go_simp;done)|(go_simp;with_reducible rfl))⟩), (fun _ => ⟨_, drop_at rfl, by (first|(go_simp;done)|(go_simp;with_reducible rfl))⟩), (fun _ => ⟨_, drop_at rfl, by (first|(go_simp;done)|(go_simp;with_reducible rfl))⟩), (fun _ => ⟨_, drop_at rfl, by (first|(go_simp;done)|(go_simp;with_reducible rfl))⟩), trivial⟩
                simp only [Act.put, pA, pB, pC]
                refine SG.c rfl rfl rfl (by first|(go_simp;done)|(go_simp;with_reducible rfl)|(go_simp;exact ⟨⟨rfl, rfl⟩, rfl⟩)) ?_
                refine (rOwn_any _ (c.gates.length - (at_ + L.length)) (k - (at_ + L.length)) (c.gates.drop (at_ + L.length)) _ (Rd.sub (HH.out.1.bG (hb1.trans (HB7.out.mono hb1.size))) hk) (by rw [List.length_drop]) (fun g hg => HH.out.2.2.wires g (List.mem_of_mem_drop hg)) (by rw [List.length_drop]; omega)).mono ?_
                rintro e w8 ⟨v8, rfl, ⟨psC, hpsC, _, hoC⟩, hb8⟩
                have hlC : psC.length = c.gates.length - (at_ + L.length) := by have := congrArg List.length hpsC; rw [List.length_map, List.length_drop] at this; omega
                obtain ⟨A8, c8, hv8, hc8⟩ := hoC.form
                rw [hlC] at hv8
                subst hv8
                replace p0 := blk2 hb8 p0
                replace p1 := blk2 hb8 p1
                replace p2 := blk2 hb8 p2
                replace p5 := blk2 hb8 p5
                clear k0 k1 k2 kf m0 m1 m2 m3 mf f0 f1 f2 ff
                obtain ⟨k0, k1, k2, kf⟩ := cells3 p0
                obtain ⟨m0, m1, m2, m3, mf⟩ := cells4 p1
                obtain ⟨f0, f1, f2, ff⟩ := cells3 p5
                have HOC := Lib.hid (And.intro hoC (And.intro hpsC (And.intro hlC (And.intro hb8 (HO7.out.1.below (EGv.stays _ _) hb8)))))
                have hz8 := hb8.size
                clear hoC hpsC hlC hb8
                refine ⟨_, rfl, ?_, ?_⟩
                · exact ⟨(fun _ => ⟨_, drop_at rfl, by (first|(go_simp;done)|(go_simp;with_reducible rfl))⟩), (fun _ => ⟨_, drop_at rfl, by (first|(go_simp;done)|(go_simp;with_reducible rfl))⟩), (fun _ => ⟨_, drop_at rfl, by (first|(go_simp;done)|(go_simp;with_reducible rfl))⟩), (fun _ => ⟨_, drop_at rfl, by (first|(go_simp;done)|(go_simp;with_reducible rfl))⟩), trivial⟩
                simp only [Act.put, pA, pB, pC]
                obtain ⟨A8', c8', hx8, _, hRd⟩ := HOC.out.1.rd (by have := HOC.out.2.2.1; omega)
                rw [HOC.out.2.2.1] at hx8
                cases hx8
                refine SG.apps (E := EGv 3 wa.heap.size) (E' := EGv 3 w7.heap.size) (W := w8) (EGv.one _ _) (fun _ _ h => h.weak (by omega)) 55 4 W5.heap.size rfl rfl _ _ 22 (.agg #[.int .i64 0, .slice none 0 0, .int .i64 0, .int .i64 0]) 48 rfl Tryz.underlying22 (by kernel_rfl) rfl (by decide) (by decide) (.slice A7 (at_ + R.length) c7) (psA ++ psR) psC A8 c8 rfl (by rw [HOC.out.2.2.1]; rfl) hRd HOC.out.2.2.2.2 (by omega) (by have := HOC.out.2.2.1; have := HOA.out.2.2.1; have := HO7.out.2.2; simp; omega) (fun _ _ _ h1 h2 _ _ h => h.other h1 h2 (by decide)) ?_
                intro v9 w9 ho9 hg9
                obtain ⟨A9, c9, hv9, hc9⟩ := ho9.form
                obtain ⟨N, hN⟩ : ∃ N, (psA ++ psR ++ psC).length = N := ⟨_, rfl⟩
                rw [hN] at hv9 hc9
                subst hv9
                have hNv : N = at_ + R.length + (c.gates.length - (at_ + L.length)) := by rw [← hN, List.length_append, List.length_append, HOC.out.2.2.1, HOA.out.2.2.1, HO7.out.2.2]
                have HNV := Lib.hid hNv
                clear hNv
                have hbr9 : Below W5.heap.size w8 w9 := HOC.out.2.2.2.2.grows hg9 (Below.refl _ _) (Nat.le_refl _) (by omega)
                have HB9 := Lib.hid (HB7.out.trans ((HOC.out.2.2.2.1.mono (by omega)).trans hbr9))
                have hbr9' : ∀ {b : Nat} {o : Obj}, b < W5.heap.size → w8.heap[b]? = some o → w9.heap[b]? = some o := fun hb ho => (hbr9.block _ hb).trans ho
                replace p0 := hbr9' (by omega) p0
                replace p1 := hbr9' (by omega) p1
                replace p2 := hbr9' (by omega) p2
                replace p5 := hbr9' hlp5 p5
                clear k0 k1 k2 kf m0 m1 m2 m3 mf f0 f1 f2 ff
                obtain ⟨k0, k1, k2, kf⟩ := cells3 p0
                obtain ⟨m0, m1, m2, m3, mf⟩ := cells4 p1
                obtain ⟨f0, f1, f2, ff⟩ := cells3 p5
                have HO9 := Lib.hid (And.intro ho9 (And.intro hN (show (psA ++ psR ++ psC).map Prod.fst = c.gates.take at_ ++ R ++ c.gates.drop (at_ + L.length) by rw [List.map_append, List.map_append, HOA.out.2.1, HO7.out.2.1, HOC.out.2.1])))
                have hz9 := HB9.out.size
                clear ho9 hg9 hN hRd hbr9 hbr9'
                refine ⟨?_, ?_⟩
                · exact ⟨(fun _ => ⟨_, drop_at rfl, by (first|(go_simp;done)|(go_simp;with_reducible rfl))⟩), (fun _ => ⟨_, drop_at rfl, by (first|(go_simp;done)|(go_simp;with_reducible rfl))⟩), (fun _ => ⟨_, drop_at rfl, by (first|(go_simp;done)|(go_simp;with_reducible rfl))⟩), (fun _ => ⟨_, drop_at rfl, by (first|(go_simp;done)|(go_simp;with_reducible rfl))⟩), trivial⟩
                simp only [Act.put, pA, pB, pC]
                refine SG.p (v := ?v2_40_18) rfl rfl rfl (fun W => ?h2_40_18) ?r2_40_18
                case h2_40_18 => (first|(go_simp;done)|(go_simp;with_reducible rfl))
                simp only [Act.put, pA, pB, pC]
                refine SG.k (w' := ?w2_40_19) rfl rfl rfl ?h2_40_19 ?s2_40_19 ?r2_40_19
                case h2_40_19 => (first|(go_simp;done)|(go_simp;with_reducible rfl))
                case s2_40_19 => exact ⟨(nw (by kernel_rfl)), (nw (by kernel_rfl)), (nw (by kernel_rfl)), (nw (by kernel_rfl)), trivial⟩
                simp only [Act.put, pA, pB, pC]
                simp only [SG]
                obtain ⟨w10, hw10⟩ : ∃ w10, w9.setCell ⟨wr.heap.size, 2, none⟩ (.slice A9 N c9) = w10 := ⟨_, rfl⟩
                have hne0 : ∀ b, b < W5.heap.size → b ≠ wr.heap.size → w10.heap[b]? = w9.heap[b]? := fun b _ hb => by rw [← hw10]; exact heap_setCell_other _ _ _ _ hb
                have q0 := (hne0 _ (by omega) (by omega)).trans p0
                have q2 := (hne0 _ (by omega) (by omega)).trans p2
                have q5 : w10.heap[wr.heap.size]? = some (.cells #[.int .i64 c.wires, .int .i64 c.bits, .slice A9 N c9] 24 (0, 0)) := by rw [← hw10]; exact heap_setCell_same _ _ 2 _ _ _ p5
                have hO10 : App (EGv 3 wa.heap.size) 55 4 wa.heap.size w10 (.slice A9 N c9) (psA ++ psR ++ psC) := by
                  rw [← hw10]
                  exact (HO9.out.1.setT p5 (by decide) fun x cs ⟨e1, e2⟩ => ⟨e1, e2.setT p5 (by decide) fun _ _ h => h⟩).imp (by omega) (fun _ _ h => h)
                have hb10 : Below w.heap.size w w10 := by rw [← hw10]; exact (hb1.trans (HB9.out.mono hb1.size)).setCell (by simp; omega) _
                rw [hw10]
                clear hw10 hne0 p0 p1 p2 p5 hb1 k0 k1 k2 kf m0 m1 m2 m3 mf f0 f1 f2 ff
                obtain ⟨f0, f1, f2, ff⟩ := cells3 q5
                have hlq5 := blk_lt q5
                by_cases h11 : 120 < N
                · have h11' : (120 : Int) < (N : Int) := by omega
                  have HO11 := Lib.hid (show applyR c ⟨i, at_, back, ws⟩ = (11, zeroC, 0) by rw [HF.out, HST2.out, if_pos (by have := HNV.out; omega)])
                  have p0 := q0
                  have p1 := q5
                  have hb1 := hb10
                  have p2 := q2
                  clear h11 q0 q2 q5 hO10 hb10
                  have HF := Lib.hid (show applyR c ⟨i, at_, back, ws⟩ = (11, zeroC, 0) from HO11.out)
                  have HP := Lib.hid (And.intro p2 hb1)
                  have hr := cells3 p2
                  clear p0 p1 p2 hb1
                  obtain ⟨r0, r1, r2, rf⟩ := hr
                  go_wp2
                  all_goals rw [HF.out]
                  all_goals exact z31t0
                · have h11' : ¬ (120 : Int) < (N : Int) := by omega
                  have HOK := Lib.hid (show applyR c ⟨i, at_, back, ws⟩ = (0, ⟨c.wires, c.bits, c.gates.take at_ ++ R ++ c.gates.drop (at_ + L.length)⟩, phaseN i back) by rw [HF.out, HST2.out, if_neg (by have := HNV.out; omega)])
                  have hrdF := hO10.rdF HO9.out.2.1 (by rw [HO9.out.2.1]; have := HNV.out; omega) (fun g hg => by
                    rw [HO9.out.2.2] at hg
                    simp only [List.mem_append] at hg
                    rcases hg with (hg | hg) | hg
                    · have := HH.out.2.2.wires g (List.mem_of_mem_take hg); omega
                    · have := hRw g hg; omega
                    · have := HH.out.2.2.wires g (List.mem_of_mem_drop hg); omega)
                  rw [HO9.out.2.2] at hrdF
                  have hNl : (c.gates.take at_ ++ R ++ c.gates.drop (at_ + L.length)).length = N := by rw [← HO9.out.2.2, List.length_map]; exact HO9.out.2.1
                  have HP := Lib.hid (And.intro q2 (And.intro hrdF (And.intro hb10 hNl)))
                  obtain ⟨r0, r1, r2, rf⟩ := cells3 q2
                  clear q0 q2 q5 hO10 hb10 hrdF hNl h11
                  go_wp2
                  all_goals rw [HOK.out]
                  all_goals refine bodyPost_ret (results_list (rs := [.cell 4 24, .tmp 5, .tmp 6]) rfl (by simp) (.cell (w.heap.size + 1 + 1) 24 _ _ _ rfl (set3 HP.out.1) Tryz.underlying24 rfl (by kernel_rfl) (.tmp (.tmp .nil)))) rfl ?_
                  all_goals refine ⟨A9, c9, ?_, ?_, HP.out.2.1.1.set3 (by omega) (by omega) _ _ _, ((HP.out.2.2.1.setCell (by first|(simp;done)|(simp;omega)|omega) _).setCell (by first|(simp;done)|(simp;omega)|omega) _).setCell (by first|(simp;done)|(simp;omega)|omega) _⟩
                  all_goals dsimp only
                  all_goals rw [HP.out.2.2.2]
                  all_goals first | rfl | exact HP.out.2.1.2
end Go.Proofs.YtfommmijojfdbaaGreatDoor
