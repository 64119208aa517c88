/- Part 41 of the proof that 'spoondriftlaw19.RulesApplies' holds for every input; it has no condition beyond the statement's own. -/
import Derived.Test.YtfommmijojfdbaaGreatDoorZ39
set_option linter.all false
namespace Go.Proofs.YtfommmijojfdbaaGreatDoor
open Go.RowKit
def largeB (c : C) : Bool := decide (8 < c.gates.length) || decide (3 < c.wires)
theorem Search1_any (A : Option Addr) (k : Nat) (c : C) (w : World) : Calls Tryz.prog 79 #[.agg #[.int .i64 c.wires, .int .i64 c.bits, .slice A c.gates.length k]] w fun e w' => e = .returned (.bool (largeB c)) ∧ Below w.heap.size w w' := by
  by_cases h1 : 8 < c.gates.length
  · have h1' : (8 : Int) < (c.gates.length : Int) := by omega
    go_enter Tryz.func79, Tryz.ntmps79
    go_wp2
    go_ret
    exact ⟨ret_bool (by unfold largeB; rw [decide_eq_true h1, Bool.true_or]), by (repeat (first|exact bR _ _|assumption|apply bN|apply bA|apply bD))⟩
  · have h1' : ¬ (8 : Int) < (c.gates.length : Int) := by omega
    go_enter Tryz.func79, Tryz.ntmps79
    go_wp2
    go_ret
    exact ⟨ret_bool (by unfold largeB; rw [decide_eq_false h1, Bool.false_or]), by (repeat (first|exact bR _ _|assumption|apply bN|apply bA|apply bD))⟩
theorem SearchR_eq (c d : C) (most : Int) : SearchR c d most =
  if check c ≠ 0 then (check c, []) else if check d ≠ 0 then (check d, []) else
  if plainE c ≠ 0 ∨ plainE d ≠ 0 ∨ c.wires ≠ d.wires ∨ c.bits ≠ d.bits then (7, []) else
  if largeB c = true ∨ largeB d = true then (8, []) else
  if most < 0 ∨ 2 < most then (3, []) else
  match (List.range (most.toNat + 1)).findSome? fun n => reachedL n c d with
  | some l => (0, l)
  | none => (6, []) := by
  unfold SearchR
  split
  · rfl
  split
  · rfl
  split
  · rfl
  have h : (8 < c.gates.length ∨ 3 < c.wires ∨ 8 < d.gates.length ∨ 3 < d.wires) ↔ (largeB c = true ∨ largeB d = true) := by
    unfold largeB
    simp only [Bool.or_eq_true, decide_eq_true_eq]
    constructor
    · rintro (h | h | h | h)
      · exact .inl (.inl h)
      · exact .inl (.inr h)
      · exact .inr (.inl h)
      · exact .inr (.inr h)
    · rintro ((h | h) | (h | h))
      · exact .inl h
      · exact .inr (.inl h)
      · exact .inr (.inr (.inl h))
      · exact .inr (.inr (.inr h))
  by_cases hh : largeB c = true ∨ largeB d = true
  · rw [if_pos hh, if_pos (h.2 hh)]
  · rw [if_neg hh, if_neg (fun e => hh (h.1 e))]
    rfl
def RetS (x : Int × List M) (w : World) (e : Ending) (w' : World) : Prop := ∃ v, e = .returned (.tuple #[v, .int .i64 x.1]) ∧ App (EMo 3 w.heap.size) 27 4 w.heap.size w' v x.2 ∧ Below w.heap.size w w'
theorem RetS.none {x : Int × List M} {er : Int} {w w' : World} (h : x = (er, [])) (hb : Below w.heap.size w w') : RetS x w (.returned (.tuple #[.slice none 0 0, .int .i64 er])) w' := by
  subst h
  exact ⟨_, rfl, App.nil _ _ _ _ _, hb⟩
def NoneUp (c d : C) (j : Nat) : Prop := (List.range j).findSome? (fun n => reachedL n c d) = none
theorem NoneUp.next {c d : C} {j : Nat} (h : NoneUp c d j) (h2 : reachedL j c d = none) : NoneUp c d (j + 1) := by
  unfold NoneUp
  rw [range_find, show (List.range j).findSome? (fun n => reachedL n c d) = none from h, h2]
  rfl
set_option maxRecDepth 1000000 in
set_option maxHeartbeats 8000000 in
theorem Search_any (A D : Option Addr) (k m : Nat) (c d : C) (most : Int) (w : World) (HT : Hid (Laid w)) (h : RdG w A c.gates) (hk : c.gates.length ≤ k) (h' : RdG w D d.gates) :
    Calls Tryz.prog 35 #[.agg #[.int .i64 c.wires, .int .i64 c.bits, .slice A c.gates.length k], .agg #[.int .i64 d.wires, .int .i64 d.bits, .slice D d.gates.length m], .int .i64 most] w (RetS (SearchR c d most) w) := by
  have HH := Lib.hid (And.intro h h')
  obtain ⟨out, hout⟩ : ∃ x, SearchR c d most = x := ⟨_, rfl⟩
  rw [hout]
  have HOUT := Lib.hid (hout.symm.trans (SearchR_eq c d most))
  clear h h' hout
  go_enter Tryz.func35, Tryz.ntmps35
  go_upto_region 2 with fail
  obtain ⟨W1, hW1⟩ : ∃ W1, (((w.alloc (.cells #[.int .i64 c.wires, .int .i64 c.bits, .slice A c.gates.length k] 24)).alloc (.cells #[.int .i64 d.wires, .int .i64 d.bits, .slice D d.gates.length m] 24)).alloc (.cells #[.int .i64 c.wires, .int .i64 c.bits, .slice A c.gates.length k, .int .i64 d.wires, .int .i64 d.bits, .slice D d.gates.length m] 24)) = W1 := ⟨_, rfl⟩
  have hb01 : Below w.heap.size w W1 := by rw [← hW1]; (repeat (first|exact bR _ _|assumption|apply bN|apply bA|apply bD))
  have p0 : W1.heap[w.heap.size]? = some (.cells #[.int .i64 c.wires, .int .i64 c.bits, .slice A c.gates.length k] 24) := by rw [← hW1]; exact alloc_old (alloc_old (blk_alloc _ _ _ rfl))
  have p1 : W1.heap[w.heap.size + 1]? = some (.cells #[.int .i64 d.wires, .int .i64 d.bits, .slice D d.gates.length m] 24) := by rw [← hW1]; exact alloc_old (blk_alloc _ _ _ (by simp))
  have p2 : W1.heap[w.heap.size + 1 + 1]? = some (.cells #[.int .i64 c.wires, .int .i64 c.bits, .slice A c.gates.length k, .int .i64 d.wires, .int .i64 d.bits, .slice D d.gates.length m] 24) := by rw [← hW1]; exact blk_alloc _ _ _ (by simp)
  try rw [hW1]
  clear hW1
  have HS := Lib.hid (show (1 ≤ 0 → check c = 0) ∧ (2 ≤ 0 → check d = 0) ∧ W1.heap[w.heap.size + 1 + 1]? = some (.cells #[.int .i64 c.wires, .int .i64 c.bits, .slice A c.gates.length k, .int .i64 d.wires, .int .i64 d.bits, .slice D d.gates.length m] 24 (0, 0)) ∧ W1.heap[w.heap.size]? = some (.cells #[.int .i64 c.wires, .int .i64 c.bits, .slice A c.gates.length k] 24 (0, 0)) ∧ W1.heap[w.heap.size + 1]? = some (.cells #[.int .i64 d.wires, .int .i64 d.bits, .slice D d.gates.length m] 24 (0, 0)) ∧ Below w.heap.size w W1 from ⟨by omega, by omega, p2, p0, p1, hb01⟩)
  clear p0 p1 p2 hb01
  go_wp2_with fail
  go_loopw [9, 10, 19] (fun _ _ i wr => ∃ j : Nat, j ≤ 2 ∧ i = .int .i64 j ∧ Hid ((1 ≤ j → check c = 0) ∧ (2 ≤ j → check d = 0) ∧ wr.heap[w.heap.size + 1 + 1]? = some (.cells #[.int .i64 c.wires, .int .i64 c.bits, .slice A c.gates.length k, .int .i64 d.wires, .int .i64 d.bits, .slice D d.gates.length m] 24 (0, 0)) ∧ wr.heap[w.heap.size]? = some (.cells #[.int .i64 c.wires, .int .i64 c.bits, .slice A c.gates.length k] 24 (0, 0)) ∧ wr.heap[w.heap.size + 1]? = some (.cells #[.int .i64 d.wires, .int .i64 d.bits, .slice D d.gates.length m] 24 (0, 0)) ∧ Below w.heap.size w wr)) (fun _ _ i _ => 2 - (intOf i).toNat)
  case atStart => exact ⟨0, by omega, rfl, HS⟩
  case round =>
    obtain ⟨j, hj, rfl, HI⟩ := hrel
    rcases (show j = 0 ∨ j = 1 ∨ j = 2 by omega) with rfl | rfl | rfl
    · skip
      obtain ⟨e1, e2, e3, e4, e5, e6⟩ := HI.out
      have g0 : wr.cell? ⟨w.heap.size + 1 + 1, 0, none⟩ = some (.int .i64 c.wires) := by rw [cell_of_row _ _ 0 _ _ (0, 0) e3]; rfl
      have g1 : wr.cell? ⟨w.heap.size + 1 + 1, 1, none⟩ = some (.int .i64 c.bits) := by rw [cell_of_row _ _ 1 _ _ (0, 0) e3]; rfl
      have g2 : wr.cell? ⟨w.heap.size + 1 + 1, 2, none⟩ = some (.slice A c.gates.length k) := by rw [cell_of_row _ _ 2 _ _ (0, 0) e3]; rfl
      have hx1 : ∀ o, Below w.heap.size w (wr.alloc o) := fun o => by (repeat (first|exact bR _ _|assumption|apply bN|apply bA|apply bD))
      have hx2 : ∀ o, Below wr.heap.size wr (wr.alloc o) := fun o => by (repeat (first|exact bR _ _|assumption|apply bN|apply bA|apply bD))
      have hl2 := blk_lt e3
      have hold := olds wr
      have hc := Check_any A k c (wr.alloc (.cells #[.int .i64 c.wires, .int .i64 c.bits, .slice A c.gates.length k] 24)) (HH.out.1.bG (hx1 _))
      obtain ⟨q, hq⟩ : ∃ q, check c = q := ⟨_, rfl⟩
      rw [hq] at hc
      have HX := Lib.hid (And.intro hx1 hx2)
      clear e1 e2 e3 e4 e5 e6 hx1 hx2
      go_wp2_with fail
      refine hc.mono ?_
      clear hc
      rintro e w2 ⟨rfl, hb⟩
      have hbr : Below wr.heap.size wr w2 := (HX.out.2 _).trans (hb.mono (by simp))
      have hb0 := HI.out.2.2.2.2.2.trans (hbr.mono HI.out.2.2.2.2.2.size)
      clear hb g0 g1 g2 hold
      by_cases hq0 : q = 0
      · subst hq0
        have HQ := Lib.hid hq
        clear hq
        go_wp2
        go_roundw
        case rel => exact ⟨0 + 1, by omega, by go_num, Lib.hid ⟨fun h => by exact HQ.out, fun h => by omega, blk2 hbr HI.out.2.2.1, blk2 hbr HI.out.2.2.2.1, blk2 hbr HI.out.2.2.2.2.1, hb0⟩⟩
        case measure => simp [intOf]
      · have hne : (q != 0) = true := by simpa using hq0
        have HQ := Lib.hid (And.intro hq hq0)
        clear hq hq0
        go_wp2
        exact bodyPost_ret (results_list (rs := [.tmp 6, .tmp 7]) rfl (by simp) (.tmp (.tmp .nil))) rfl (RetS.none (by rw [HOUT.out, HQ.out.1, if_pos HQ.out.2]) hb0)
    · skip
      obtain ⟨e1, e2, e3, e4, e5, e6⟩ := HI.out
      have g0 : wr.cell? ⟨w.heap.size + 1 + 1, 3, none⟩ = some (.int .i64 d.wires) := by rw [cell_of_row _ _ 3 _ _ (0, 0) e3]; rfl
      have g1 : wr.cell? ⟨w.heap.size + 1 + 1, 4, none⟩ = some (.int .i64 d.bits) := by rw [cell_of_row _ _ 4 _ _ (0, 0) e3]; rfl
      have g2 : wr.cell? ⟨w.heap.size + 1 + 1, 5, none⟩ = some (.slice D d.gates.length m) := by rw [cell_of_row _ _ 5 _ _ (0, 0) e3]; rfl
      have hx1 : ∀ o, Below w.heap.size w (wr.alloc o) := fun o => by (repeat (first|exact bR _ _|assumption|apply bN|apply bA|apply bD))
      have hx2 : ∀ o, Below wr.heap.size wr (wr.alloc o) := fun o => by (repeat (first|exact bR _ _|assumption|apply bN|apply bA|apply bD))
      have hl2 := blk_lt e3
      have hold := olds wr
      have hc := Check_any D m d (wr.alloc (.cells #[.int .i64 d.wires, .int .i64 d.bits, .slice D d.gates.length m] 24)) (HH.out.2.bG (hx1 _))
      obtain ⟨q, hq⟩ : ∃ q, check d = q := ⟨_, rfl⟩
      rw [hq] at hc
      have HX := Lib.hid (And.intro hx1 hx2)
      clear e1 e2 e3 e4 e5 e6 hx1 hx2
      go_wp2_with fail
      refine hc.mono ?_
      clear hc
      rintro e w2 ⟨rfl, hb⟩
      have hbr : Below wr.heap.size wr w2 := (HX.out.2 _).trans (hb.mono (by simp))
      have hb0 := HI.out.2.2.2.2.2.trans (hbr.mono HI.out.2.2.2.2.2.size)
      clear hb g0 g1 g2 hold
      by_cases hq0 : q = 0
      · subst hq0
        have HQ := Lib.hid hq
        clear hq
        go_wp2
        go_roundw
        case rel => exact ⟨1 + 1, by omega, by go_num, Lib.hid ⟨fun h => by exact HI.out.1 (by omega), fun h => by exact HQ.out, blk2 hbr HI.out.2.2.1, blk2 hbr HI.out.2.2.2.1, blk2 hbr HI.out.2.2.2.2.1, hb0⟩⟩
        case measure => simp [intOf]
      · have hne : (q != 0) = true := by simpa using hq0
        have HQ := Lib.hid (And.intro hq hq0)
        clear hq hq0
        go_wp2
        exact bodyPost_ret (results_list (rs := [.tmp 6, .tmp 7]) rfl (by simp) (.tmp (.tmp .nil))) rfl (RetS.none (by rw [HOUT.out, if_neg (by rw [HI.out.1 (by omega)]; simp), HQ.out.1, if_pos HQ.out.2]) hb0)
    · have HO2 := Lib.hid (show out = _ from HOUT.out.trans (by rw [if_neg (by rw [HI.out.1 (by omega)]; simp), if_neg (by rw [HI.out.2.1 (by omega)]; simp)]))
      obtain ⟨_, _, _, q0, q1, hbw⟩ := HI.out
      have HP := Lib.hid (And.intro q0 (And.intro q1 hbw))
      obtain ⟨a0, a1, a2, af⟩ := cells3 q0
      obtain ⟨b0, b1, b2, bf⟩ := cells3 q1
      have hpc := plain_any A k c wr (HH.out.1.bG hbw)
      clear HI HS HOUT q0 q1 hbw
      go_wp2_with fail
      refine hpc.mono ?_
      clear hpc
      rintro e w2 ⟨rfl, hb⟩
      have q0 := blk2 hb HP.out.1
      have q1 := blk2 hb HP.out.2.1
      have HP2 := Lib.hid (And.intro q0 (And.intro q1 (HP.out.2.2.trans (hb.mono HP.out.2.2.size))))
      clear a0 a1 a2 af b0 b1 b2 bf
      obtain ⟨a0, a1, a2, af⟩ := cells3 q0
      obtain ⟨b0, b1, b2, bf⟩ := cells3 q1
      clear q0 q1 hb
      obtain ⟨qc, hqc⟩ : ∃ q, plainE c = q := ⟨_, rfl⟩
      rw [hqc]
      by_cases hc0 : qc = 0
      case neg =>
        have hne : (qc != 0) = true := by simpa using hc0
        have HE := Lib.hid (show plainE c ≠ 0 by rw [hqc]; exact hc0)
        clear hqc hc0
        go_wp2
        exact bodyPost_ret (results_list (rs := [.tmp 6, .tmp 7]) rfl (by simp) (.tmp (.tmp .nil))) rfl (RetS.none (by rw [HO2.out, if_pos (.inl HE.out)]) HP2.out.2.2)
      subst hc0
      have HQC := Lib.hid hqc
      clear hqc
      have hpd := plain_any D m d w2 (HH.out.2.bG HP2.out.2.2)
      go_wp2_with fail
      refine hpd.mono ?_
      clear hpd
      rintro e w3 ⟨rfl, hb⟩
      have q0 := blk2 hb HP2.out.1
      have q1 := blk2 hb HP2.out.2.1
      have HP3 := Lib.hid (And.intro q0 (And.intro q1 (HP2.out.2.2.trans (hb.mono HP2.out.2.2.size))))
      clear a0 a1 a2 af b0 b1 b2 bf
      obtain ⟨a0, a1, a2, af⟩ := cells3 q0
      obtain ⟨b0, b1, b2, bf⟩ := cells3 q1
      clear q0 q1 hb
      obtain ⟨qd, hqd⟩ : ∃ q, plainE d = q := ⟨_, rfl⟩
      rw [hqd]
      by_cases hd0 : qd = 0
      case neg =>
        have hne : (qd != 0) = true := by simpa using hd0
        have HE := Lib.hid (show plainE d ≠ 0 by rw [hqd]; exact hd0)
        clear hqd hd0
        go_wp2
        exact bodyPost_ret (results_list (rs := [.tmp 6, .tmp 7]) rfl (by simp) (.tmp (.tmp .nil))) rfl (RetS.none (by rw [HO2.out, if_pos (.inr (.inl HE.out))]) HP3.out.2.2)
      subst hd0
      have HQD := Lib.hid hqd
      clear hqd
      by_cases hww : c.wires = d.wires
      case neg =>
        have hne : (c.wires != d.wires) = true := by simpa using hww
        have HE := Lib.hid hww
        clear hww
        go_wp2
        exact bodyPost_ret (results_list (rs := [.tmp 6, .tmp 7]) rfl (by simp) (.tmp (.tmp .nil))) rfl (RetS.none (by rw [HO2.out, if_pos (.inr (.inr (.inl HE.out)))]) HP3.out.2.2)
      by_cases hbb : c.bits = d.bits
      case neg =>
        have hne : (c.wires != d.wires) = false := by simpa using hww
        have hne2 : (c.bits != d.bits) = true := by simpa using hbb
        have HE := Lib.hid hbb
        clear hbb hww
        go_wp2
        exact bodyPost_ret (results_list (rs := [.tmp 6, .tmp 7]) rfl (by simp) (.tmp (.tmp .nil))) rfl (RetS.none (by rw [HO2.out, if_pos (.inr (.inr (.inr HE.out)))]) HP3.out.2.2)
      have hne : (c.wires != d.wires) = false := by simpa using hww
      have hne2 : (c.bits != d.bits) = false := by simpa using hbb
      have HO3 := Lib.hid (show out = _ from HO2.out.trans (by rw [if_neg (by rw [HQC.out, HQD.out]; simp [hww, hbb])]))
      clear hww hbb HO2
      have hl1 := Search1_any A k c w3
      obtain ⟨lc, hlc⟩ : ∃ q, largeB c = q := ⟨_, rfl⟩
      rw [hlc] at hl1
      have HLC := Lib.hid hlc
      clear hlc
      go_wp2_with fail
      refine hl1.mono ?_
      clear hl1
      rintro e w4 ⟨rfl, hb⟩
      have q0 := blk2 hb HP3.out.1
      have q1 := blk2 hb HP3.out.2.1
      have HP4 := Lib.hid (And.intro q0 (And.intro q1 (HP3.out.2.2.trans (hb.mono HP3.out.2.2.size))))
      clear a0 a1 a2 af b0 b1 b2 bf
      obtain ⟨a0, a1, a2, af⟩ := cells3 q0
      obtain ⟨b0, b1, b2, bf⟩ := cells3 q1
      clear q0 q1 hb
      cases lc
      case true =>
        go_wp2
        exact bodyPost_ret (results_list (rs := [.tmp 6, .tmp 7]) rfl (by simp) (.tmp (.tmp .nil))) rfl (RetS.none (by rw [HO3.out, if_pos (.inl HLC.out)]) HP4.out.2.2)
      have hl2 := Search1_any D m d w4
      obtain ⟨ld, hld⟩ : ∃ q, largeB d = q := ⟨_, rfl⟩
      rw [hld] at hl2
      have HLD := Lib.hid hld
      clear hld
      go_wp2_with fail
      refine hl2.mono ?_
      clear hl2
      rintro e w5 ⟨rfl, hb⟩
      have q0 := blk2 hb HP4.out.1
      have q1 := blk2 hb HP4.out.2.1
      have HP5 := Lib.hid (And.intro q0 (And.intro q1 (HP4.out.2.2.trans (hb.mono HP4.out.2.2.size))))
      clear a0 a1 a2 af b0 b1 b2 bf
      obtain ⟨a0, a1, a2, af⟩ := cells3 q0
      obtain ⟨b0, b1, b2, bf⟩ := cells3 q1
      clear q0 q1 hb
      cases ld
      case true =>
        go_wp2
        exact bodyPost_ret (results_list (rs := [.tmp 6, .tmp 7]) rfl (by simp) (.tmp (.tmp .nil))) rfl (RetS.none (by rw [HO3.out, if_pos (.inr HLD.out)]) HP5.out.2.2)
      have HO4 := Lib.hid (show out = _ from HO3.out.trans (by rw [if_neg (by rw [HLC.out, HLD.out]; simp)]))
      clear HO3
      by_cases hm0 : most < 0
      case pos =>
        go_wp2
        exact bodyPost_ret (results_list (rs := [.tmp 6, .tmp 7]) rfl (by simp) (.tmp (.tmp .nil))) rfl (RetS.none (by rw [HO4.out, if_pos (.inl hm0)]) HP5.out.2.2)
      by_cases hm2 : 2 < most
      case pos =>
        go_wp2
        exact bodyPost_ret (results_list (rs := [.tmp 6, .tmp 7]) rfl (by simp) (.tmp (.tmp .nil))) rfl (RetS.none (by rw [HO4.out, if_pos (.inr hm2)]) HP5.out.2.2)
      have HO5 := Lib.hid (show out = _ from HO4.out.trans (by rw [if_neg (by omega)]))
      clear HO4
      obtain ⟨n, rfl⟩ : ∃ n : Nat, most = (n : Int) := ⟨most.toNat, by omega⟩
      have hn2 : n ≤ 2 := by omega
      have hwn : IntKind.i64.wrap ((n : Int) + 1) = (n : Int) + 1 := IntWalk.i64_in _ (by omega)
      have HG := Lib.hid (plainE_good.1 HQC.out)
      have h1b : decide ((n : Int) < 0) = false := by simp
      have h2b : decide (2 < (n : Int)) = false := by simp; omega
      clear hm0 hm2
      have HS := Lib.hid (show NoneUp c d 0 ∧ w5.heap[w.heap.size]? = some (.cells #[.int .i64 c.wires, .int .i64 c.bits, .slice A c.gates.length k] 24 (0, 0)) ∧ w5.heap[w.heap.size + 1]? = some (.cells #[.int .i64 d.wires, .int .i64 d.bits, .slice D d.gates.length m] 24 (0, 0)) ∧ Below w.heap.size w w5 from ⟨rfl, HP5.out⟩)
      go_wp2_with fail
      clear a0 a1 a2 af b0 b1 b2 bf
      go_loopw [12, 13, 14, 70] (fun _ _ _ iz wr => ∃ j : Nat, j ≤ n + 1 ∧ iz = .int .i64 j ∧ Hid (NoneUp c d j ∧ wr.heap[w.heap.size]? = some (.cells #[.int .i64 c.wires, .int .i64 c.bits, .slice A c.gates.length k] 24 (0, 0)) ∧ wr.heap[w.heap.size + 1]? = some (.cells #[.int .i64 d.wires, .int .i64 d.bits, .slice D d.gates.length m] 24 (0, 0)) ∧ Below w.heap.size w wr)) (fun _ _ _ iz _ => n + 1 - (intOf iz).toNat)
      case atStart => exact ⟨0, by omega, rfl, HS⟩
      case round =>
        clear HS
        obtain ⟨j, hj, rfl, HI⟩ := hrel
        by_cases hlt : j < n + 1
        · have hlti : (j : Int) < (n : Int) + 1 := by omega
          obtain ⟨h1, q0, q1, hbw⟩ := HI.out
          obtain ⟨a0, a1, a2, af⟩ := cells3 q0
          obtain ⟨b0, b1, b2, bf⟩ := cells3 q1
          have hre := reached_any j (by omega) A D k m c d wr (Lib.hid (HT.out.below hbw)) (HH.out.1.bG hbw) hk (HH.out.2.bG hbw) HG.out
          obtain ⟨rl, hrl⟩ : ∃ r, reachedL j c d = r := ⟨_, rfl⟩
          rw [hrl] at hre
          have HRL := Lib.hid hrl
          clear h1 q0 q1 hbw hrl
          go_wp2_with fail
          refine hre.mono ?_
          clear hre
          rintro e w7 ⟨v7, q7, rfl, hq7, ho7, hb7⟩
          obtain ⟨A7, c7, rfl, _⟩ := ho7.form
          have HE := Lib.hid (And.intro hq7 (And.intro ho7 hb7))
          clear hq7 ho7 hb7 a0 a1 a2 af b0 b1 b2 bf
          cases q7
          · go_wp2
            go_roundw
            case rel =>
              obtain ⟨h1, q0, q1, hbw⟩ := HI.out
              have hno : reachedL j c d = none := by
                rw [HRL.out]
                cases rl with
                | none => rfl
                | some l => exact absurd HE.out.1 (by simp)
              exact ⟨j + 1, by omega, by go_num, Lib.hid ⟨h1.next hno, blk2 HE.out.2.2 q0, blk2 HE.out.2.2 q1, hbw.trans (HE.out.2.2.mono hbw.size)⟩⟩
            case measure => simp [intOf]; omega
          · obtain ⟨l, rfl⟩ : ∃ l, rl = some l := by
              cases rl with
              | none => exact absurd HE.out.1 (by simp)
              | some l => exact ⟨l, rfl⟩
            rw [Option.getD_some] at HE ⊢
            have hfin : out = (0, l) := by
              rw [HO5.out, Int.toNat_natCast, find_at hlt HI.out.1 HRL.out]
            have HFIN := Lib.hid hfin
            clear hfin
            go_wp2
            refine bodyPost_ret (results_list (rs := [.tmp 6, .tmp 7]) rfl (by simp) (.tmp (.tmp .nil))) rfl ⟨.slice A7 l.length c7, ?_, ?_, HI.out.2.2.2.trans (HE.out.2.2.mono HI.out.2.2.2.size)⟩
            · rw [HFIN.out]; rfl
            · rw [HFIN.out]
              have hsz := HI.out.2.2.2.size
              exact HE.out.2.1.imp hsz fun x cs ⟨v, e1, e2⟩ => ⟨v, e1, e2.imp hsz fun _ _ h => h⟩
        · have hge : ¬ (j : Int) < (n : Int) + 1 := by omega
          have hfin : out = (6, []) := by
            have hjn : j = n + 1 := by omega
            have h1 := HI.out.1
            rw [hjn] at h1
            rw [HO5.out, Int.toNat_natCast, show (List.range (n + 1)).findSome? (fun n => reachedL n c d) = none from h1]
          have HFIN := Lib.hid hfin
          clear hfin
          go_wp2
          exact bodyPost_ret (results_list (rs := [.tmp 6, .tmp 7]) rfl (by simp) (.tmp (.tmp .nil))) rfl (RetS.none HFIN.out HI.out.2.2.2)
end Go.Proofs.YtfommmijojfdbaaGreatDoor
