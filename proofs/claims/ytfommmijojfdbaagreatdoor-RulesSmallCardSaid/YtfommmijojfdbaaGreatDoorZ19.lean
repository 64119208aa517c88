/- Part 20 of the proof that 'spoondriftlaw19.RulesApplies' holds for every input; it has no condition beyond the statement's own. -/
import Derived.Test.YtfommmijojfdbaaGreatDoorZ09
import Derived.Test.YtfommmijojfdbaaGreatDoorZ16
import Derived.Test.YtfommmijojfdbaaGreatDoorZ17
import Derived.Test.YtfommmijojfdbaaGreatDoorZ10
import Derived.Test.YtfommmijojfdbaaGreatDoorZ13
set_option linter.all false
namespace Go.Proofs.YtfommmijojfdbaaGreatDoor
open Go.RowKit
theorem arity_pos {k : Int} (h : 1 ≤ k ∧ k ≤ 12) : 1 ≤ arity k := by unfold arity; (repeat' split) <;> omega
theorem rTouches_any (A B : Option Addr) (c d : Nat) (g h : G) (w : World) (h1 : g.kind ≠ 13) (h2 : h.kind ≠ 13) :
    Calls Tryz.prog 155 #[.agg #[.int .i64 g.kind, .slice A g.wires.length c, .int .i64 g.bit, .int .i64 g.cif], .agg #[.int .i64 h.kind, .slice B h.wires.length d, .int .i64 h.bit, .int .i64 h.cif]] w fun e w' => e = .returned (.bool false) ∧ Below w.heap.size w w' := by
  have t1 : (g.kind == 13) = false := by simpa using h1
  have t2 : (h.kind == 13) = false := by simpa using h2
  clear h1 h2
  go_enter Tryz.func155, Tryz.ntmps155
  go_wp2
  go_ret
  exact ⟨rfl, by (repeat (first|exact bR _ _|assumption|apply bN|apply bA|apply bD))⟩
set_option maxRecDepth 100000 in
set_option maxHeartbeats 4000000 in
theorem rMeet_any (A B : Option Addr) (c d : Nat) (g h : G) (w : World) (hr : RdI w A g.wires) (hr' : RdI w B h.wires) (h1 : g.kind ≠ 13) (h2 : h.kind ≠ 13) :
    Calls Tryz.prog 154 #[.agg #[.int .i64 g.kind, .slice A g.wires.length c, .int .i64 g.bit, .int .i64 g.cif], .agg #[.int .i64 h.kind, .slice B h.wires.length d, .int .i64 h.bit, .int .i64 h.cif]] w fun e w' => e = .returned (.bool (meets g.wires h.wires)) ∧ Below w.heap.size w w' := by
  have hl := hr.1
  have hl' := hr'.1
  have HH := Lib.hid (And.intro hr hr')
  clear hr hr'
  go_enter Tryz.func154, Tryz.ntmps154
  go_wp2
  obtain ⟨W1, hW1⟩ : ∃ W1, (w.alloc (.cells #[.int .i64 g.kind, .slice A g.wires.length c, .int .i64 g.bit, .int .i64 g.cif] 55)).alloc (.cells #[.int .i64 h.kind, .slice B h.wires.length d, .int .i64 h.bit, .int .i64 h.cif] 55) = W1 := ⟨_, rfl⟩
  have hb1 : Below w.heap.size w W1 := by rw [← hW1]; (repeat (first|exact bR _ _|assumption|apply bN|apply bA|apply bD))
  obtain ⟨k0, k1, k2, k3, kf⟩ := cells4 (show W1.heap[w.heap.size]? = _ by rw [← hW1]; exact fst2 _ _ _)
  obtain ⟨m0, m1, m2, m3, mf⟩ := cells4 (show W1.heap[w.heap.size + 1]? = _ by rw [← hW1]; exact snd2 _ _ _)
  rw [hW1]
  clear hW1
  have hrd := HH.out.1.bI hb1
  have HW := Lib.hid hb1
  clear hb1
  go_loopw [5] (fun i wr => ∃ j : Nat, j ≤ g.wires.length ∧ i = .int .i64 j ∧ Hid (meets (g.wires.take j) h.wires = false) ∧ ∃ n, wr = W1.drewN n) (fun i _ => g.wires.length - (intOf i).toNat)
  case atStart => exact ⟨0, Nat.zero_le _, rfl, Lib.hid (by simp [meets]), 0, rfl⟩
  case round =>
    obtain ⟨j, hj, rfl, HI, n, rfl⟩ := hrel
    by_cases hlt : j < g.wires.length
    · obtain ⟨b, o, rfl, hx⟩ := hrd.int j hlt
      clear hrd
      by_cases hm : g.wires[j] ∈ h.wires
      · have HM := Lib.hid hm
        clear hm
        go_wp2
        go_quiet ((go_at_call 144; exact q_same2 (rHas_is _ h.wires.length d h.wires _ _ (HH.out.2.bI (by have := HW.out; (repeat (first|exact bR _ _|assumption|apply bN|apply bA|apply bD)))) rfl true (decide_eq_true HM.out))))
        go_wp2
        go_ret
        exact ⟨ret_bool (by rw [eq_comm]; unfold meets; rw [List.any_eq_true]; exact ⟨_, List.getElem_mem hlt, by simpa using HM.out⟩), by have := HW.out; (repeat (first|exact bR _ _|assumption|apply bN|apply bA|apply bD))⟩
      · have HM := Lib.hid hm
        clear hm
        go_wp2
        go_quiet ((go_at_call 144; exact q_same2 (rHas_is _ h.wires.length d h.wires _ _ (HH.out.2.bI (by have := HW.out; (repeat (first|exact bR _ _|assumption|apply bN|apply bA|apply bD)))) rfl false (decide_eq_false HM.out))))
        go_wp2
        go_roundw
        case rel => exact ⟨j + 1, by omega, by go_num, Lib.hid (by have h5 := HI.out; unfold meets at h5 ⊢; rw [List.take_succ_eq_append_getElem hlt, List.any_append, h5]; simpa using HM.out), _, rfl⟩
        case measure => simp [intOf]; omega
    · clear hrd
      have hbf : Below w.heap.size w (W1.drewN n) := by have := HW.out; (repeat (first|exact bR _ _|assumption|apply bN|apply bA|apply bD))
      have HB := Lib.hid hbf
      have HM := Lib.hid (show meets g.wires h.wires = false by have := HI.out; rwa [List.take_of_length_le (by omega)] at this)
      clear hbf HI
      go_wp2_with fail
      refine (rTouches_any A B c d g h _ h1 h2).mono ?_
      rintro e w2 ⟨rfl, hb2⟩
      have hbf := HB.out.trans (hb2.mono HB.out.size)
      have HF := Lib.hid hbf
      clear hb2 hbf
      go_wp2
      go_ret
      exact ⟨ret_bool (by rw [HM.out]), HF.out⟩
set_option maxRecDepth 100000 in
set_option maxHeartbeats 4000000 in
theorem rAlike_any (A B : Option Addr) (c d : Nat) (g h : G) (w : World) (hr : RdI w A g.wires) (hr' : RdI w B h.wires) (h2 : 2 ≤ g.wires.length) :
    Calls Tryz.prog 156 #[.agg #[.int .i64 g.kind, .slice A g.wires.length c, .int .i64 g.bit, .int .i64 g.cif], .agg #[.int .i64 h.kind, .slice B h.wires.length d, .int .i64 h.bit, .int .i64 h.cif]] w fun e w' => e = .returned (.bool (ralike g h)) ∧ Below w.heap.size w w' := by
  have hl := hr.1
  have hl' := hr'.1
  have HH := Lib.hid (And.intro hr hr')
  clear hr hr'
  go_enter Tryz.func156, Tryz.ntmps156
  go_wp2
  obtain ⟨W1, hW1⟩ : ∃ W1, (w.alloc (.cells #[.int .i64 g.kind, .slice A g.wires.length c, .int .i64 g.bit, .int .i64 g.cif] 55)).alloc (.cells #[.int .i64 h.kind, .slice B h.wires.length d, .int .i64 h.bit, .int .i64 h.cif] 55) = W1 := ⟨_, rfl⟩
  have hb1 : Below w.heap.size w W1 := by rw [← hW1]; (repeat (first|exact bR _ _|assumption|apply bN|apply bA|apply bD))
  obtain ⟨k0, k1, k2, k3, kf⟩ := cells4 (show W1.heap[w.heap.size]? = _ by rw [← hW1]; exact fst2 _ _ _)
  obtain ⟨m0, m1, m2, m3, mf⟩ := cells4 (show W1.heap[w.heap.size + 1]? = _ by rw [← hW1]; exact snd2 _ _ _)
  rw [hW1]
  clear hW1
  obtain ⟨b, o, rfl, hx0⟩ := (HH.out.1.bI hb1).int 0 (by omega)
  obtain ⟨b', o', hA, hx1⟩ := (HH.out.1.bI hb1).int 1 (by omega)
  cases hA
  have HW := Lib.hid hb1
  clear hb1
  have e0 : g.wires.getD 0 0 = g.wires[0] := by simp [List.getD, List.getElem?_eq_getElem (show 0 < g.wires.length by omega)]
  have e1 : g.wires.getD 1 0 = g.wires[1] := by simp [List.getD, List.getElem?_eq_getElem (show 1 < g.wires.length by omega)]
  have HR := Lib.hid (show ralike g h = (decide (g.wires[0] ∈ h.wires) && decide (g.wires[1] ∈ h.wires)) by unfold ralike; rw [e0, e1])
  clear e0 e1
  obtain ⟨p, hp⟩ : ∃ p, decide (g.wires[0] ∈ h.wires) = p := ⟨_, rfl⟩
  obtain ⟨q, hq⟩ : ∃ q, decide (g.wires[1] ∈ h.wires) = q := ⟨_, rfl⟩
  rw [hp, hq] at HR
  obtain ⟨y0, hy0⟩ : ∃ y, g.wires[0] = y := ⟨_, rfl⟩
  obtain ⟨y1, hy1⟩ : ∃ y, g.wires[1] = y := ⟨_, rfl⟩
  rw [hy0] at hp hx0
  rw [hy1] at hq hx1
  have HP := Lib.hid hp
  have HQ := Lib.hid hq
  clear hp hq hy0 hy1
  simp only [Nat.add_zero] at hx0
  cases p
  · go_quiet ((go_at_call 144; exact q_same (rHas_is _ h.wires.length d h.wires _ _ (HH.out.2.bI (by have := HW.out; (repeat (first|exact bR _ _|assumption|apply bN|apply bA|apply bD)))) rfl false HP.out)))
    go_wp2
    go_ret
    exact ⟨ret_bool (by rw [HR.out]; rfl), by have := HW.out; (repeat (first|exact bR _ _|assumption|apply bN|apply bA|apply bD))⟩
  · go_quiet (first | (go_at_call_of 144 (y0); exact q_same (rHas_is _ h.wires.length d h.wires y0 _ (HH.out.2.bI (by have := HW.out; (repeat (first|exact bR _ _|assumption|apply bN|apply bA|apply bD)))) rfl true HP.out)) | (go_at_call_of 144 (y1); exact q_same (rHas_is _ h.wires.length d h.wires y1 _ (HH.out.2.bI (by have := HW.out; (repeat (first|exact bR _ _|assumption|apply bN|apply bA|apply bD)))) rfl q HQ.out)))
    go_wp2
    go_ret
    exact ⟨ret_bool (by rw [HR.out]; simp), by have := HW.out; (repeat (first|exact bR _ _|assumption|apply bN|apply bA|apply bD))⟩
theorem getLast_of {l : List Int} (h : 1 ≤ l.length) (x : Int) : (decide (l.getLast? = some x)) = (l[l.length - 1] == x) := by
  rw [List.getLast?_eq_getElem?, List.getElem?_eq_getElem (show l.length - 1 < l.length by omega), Bool.eq_iff_iff]
  simp
set_option maxRecDepth 100000 in
set_option maxHeartbeats 4000000 in
theorem rAxis_any (A : Option Addr) (c : Nat) (g : G) (x : Int) (w : World) (hr : RdI w A g.wires) (h1 : 1 ≤ g.wires.length) (hk : 1 ≤ g.kind ∧ g.kind ≤ 12) :
    Calls Tryz.prog 157 #[.agg #[.int .i64 g.kind, .slice A g.wires.length c, .int .i64 g.bit, .int .i64 g.cif], .int .i64 x] w fun e w' => e = .returned (.int .i64 (raxis g x)) ∧ Below w.heap.size w w' := by
  have hl := hr.1
  go_enter Tryz.func157, Tryz.ntmps157
  go_upto_region 1 with fail
  obtain ⟨W1, hW1⟩ : ∃ W1, w.alloc (.cells #[.int .i64 g.kind, .slice A g.wires.length c, .int .i64 g.bit, .int .i64 g.cif] 55) = W1 := ⟨_, rfl⟩
  have hb0 : Below w.heap.size w W1 := by rw [← hW1]; (repeat (first|exact bR _ _|assumption|apply bN|apply bA|apply bD))
  obtain ⟨k0, k1, k2, k3, kf⟩ := cells4 (show W1.heap[w.heap.size]? = _ by rw [← hW1]; exact heap_alloc_new _ _)
  rw [hW1]
  clear hW1
  obtain ⟨b, o, rfl, hx0⟩ := (hr.bI hb0).int (g.wires.length - 1) (by omega)
  have hi : ((g.wires.length : Int) - 1) = ((g.wires.length - 1 : Nat) : Int) := by omega
  have hw : IntKind.i64.wrap ((g.wires.length : Int) - 1) = ((g.wires.length - 1 : Nat) : Int) := by rw [hi]; exact IntWalk.i64_in _ (by omega)
  have HR := Lib.hid (show raxis g x = axN g.kind (g.wires[g.wires.length - 1] == x) by unfold raxis; rw [getLast_of h1])
  obtain ⟨y, hy⟩ : ∃ y, g.wires[g.wires.length - 1] = y := ⟨_, rfl⟩
  rw [hy] at hx0 HR
  obtain ⟨q, hq⟩ : ∃ q, (y == x) = q := ⟨_, rfl⟩
  rw [hq] at HR
  have hl1 : ((g.wires.length - 1 : Nat) : Int) < (g.wires.length : Int) := by omega
  have hq' : (y == x) = q := hq
  obtain ⟨kd, hkd⟩ : ∃ kd, g.kind = kd := ⟨_, rfl⟩
  rw [hkd] at hk HR k0 ⊢
  clear hr hi hy hq hkd
  have HB := Lib.hid hb0
  clear hb0
  rcases (show kd = 1 ∨ kd = 2 ∨ kd = 3 ∨ kd = 4 ∨ kd = 5 ∨ kd = 6 ∨ kd = 7 ∨ kd = 8 ∨ kd = 9 ∨ kd = 10 ∨ kd = 11 ∨ kd = 12 by omega) with rfl | rfl | rfl | rfl | rfl | rfl | rfl | rfl | rfl | rfl | rfl | rfl
  all_goals clear hk
  all_goals cases q
  all_goals
    go_wp2
    go_ret
    exact ⟨ret_int (by rw [HR.out]; rfl), HB.out⟩
attribute [local go_sem] Oper.semAt_some
def fitN (i : Nat) (back : Bool) : Bool := !(decide (i = 43) && back)
theorem ruled1_any (back : Bool) (w : World) : Calls Tryz.prog 110 #[.bool back] w fun e w' => e = .returned (.bool (!back)) ∧ w = w' := by
  go_enter Tryz.func110, Tryz.ntmps110
  go_wp2
  go_ret
  exact ⟨rfl, rfl⟩
theorem ruled2_any (back : Bool) (w : World) : Calls Tryz.prog 113 #[.bool back] w fun e w' => e = .returned (.bool true) ∧ w = w' := by
  go_enter Tryz.func113, Tryz.ntmps113
  go_wp2
  go_ret
  exact ⟨rfl, rfl⟩
theorem fits_any (i : Nat) (back : Bool) : ∃ fx, fitsF i = .func (.func fx) #[] #[] ∧ (∀ args w, (callFunc fx args).run Tryz.prog w = .ok (.enter fx args) w) ∧ ∀ w, Calls Tryz.prog fx #[.bool back] w fun e w' => e = .returned (.bool (fitN i back)) ∧ w = w' := by
  by_cases h : i = 43
  · refine ⟨110, by unfold fitsF; rw [if_pos h], enters_of Tryz.func110 (by kernel_rfl) rfl, fun w => ?_⟩
    have : fitN i back = !back := by simp [fitN, h]
    rw [this]
    exact ruled1_any back w
  · refine ⟨113, by unfold fitsF; rw [if_neg h], enters_of Tryz.func113 (by kernel_rfl) rfl, fun w => ?_⟩
    have : fitN i back = true := by simp [fitN, h]
    rw [this]
    exact ruled2_any back w
theorem applyWire_any (b : Nat) (wires : Int) (w0 : World) (gs : List Int) (hcell : ∀ w1, Below w0.heap.size w0 w1 → w1.cell? ⟨b, 0, none⟩ = some (.int .i64 wires)) :
    PredI w0 102 #[.pointer (some ⟨b, 0, none⟩)] gs (fun n => decide (0 ≤ n ∧ n < wires)) := by
  intro n w1 _ hB
  have hc := hcell w1 hB
  clear hcell hB
  go_enter Tryz.func102, Tryz.ntmps102
  go_wp2
  all_goals
    go_ret
    exact ⟨ret_bool (by rw [Bool.eq_iff_iff]; simp; omega), Below.refl _ _⟩
theorem ruleW_le (i : Nat) (hi : i < 44) : 0 ≤ ruleW i ∧ ruleW i ≤ 3 := by
  have all : ∀ i, i < 44 → (decide (0 ≤ ruleW i) && decide (ruleW i ≤ 3)) = true := by decide
  simpa using all i hi
theorem apply_err {c : C} {s : M} {n : Int} (h : moveE c s = n) (hn : n ≠ 0) : applyR c s = (n, zeroC, 0) := by
  unfold applyR
  rw [h, if_neg hn]
set_option maxRecDepth 1000000 in
set_option maxHeartbeats 8000000 in
theorem apply_any (A B : Option Addr) (k d : Nat) (c : C) (s : M) (w : World) (HT : Hid (Laid w)) (h : RdG w A c.gates) (hk : c.gates.length ≤ k) (h' : RdI w B s.wires) (hG : Good c) :
    Calls Tryz.prog 62 #[.agg #[.int .i64 c.wires, .int .i64 c.bits, .slice A c.gates.length k], .agg #[.int .i64 s.rule, .int .i64 s.at_, .bool s.back, .slice B s.wires.length d]] w (RetC (applyR c s) w) := by
  have HH := Lib.hid (And.intro h (And.intro h' hG))
  have hlen := hG.len
  have hwl := h'.1
  clear h h' hG
  go_enter Tryz.func62, Tryz.ntmps62
  go_upto_region 2 with fail
  obtain ⟨W1, hW1⟩ : ∃ W1, ((w.alloc (.cells #[.int .i64 c.wires, .int .i64 c.bits, .slice A c.gates.length k] 24)).alloc (.cells #[.int .i64 s.rule, .int .i64 s.at_, .bool s.back, .slice B s.wires.length d] 27)).alloc (.cells #[.int .i64 0, .int .i64 0, .slice none 0 0] 24) = W1 := ⟨_, rfl⟩
  have hb01 : Below w.heap.size w W1 := by rw [← hW1]; (repeat (first|exact bR _ _|assumption|apply bN|apply bA|apply bD))
  have hz1 : W1.heap.size = w.heap.size + 3 := by rw [← hW1]; simp
  have p0 : W1.heap[w.heap.size]? = some (.cells #[.int .i64 c.wires, .int .i64 c.bits, .slice A c.gates.length k] 24) := by rw [← hW1]; exact alloc_old (alloc_old (blk_alloc _ _ _ rfl))
  have p1 : W1.heap[w.heap.size + 1]? = some (.cells #[.int .i64 s.rule, .int .i64 s.at_, .bool s.back, .slice B s.wires.length d] 27) := by rw [← hW1]; exact alloc_old (blk_alloc _ _ _ (by simp))
  have p2 : W1.heap[w.heap.size + 1 + 1]? = some (.cells #[.int .i64 0, .int .i64 0, .slice none 0 0] 24) := by rw [← hW1]; exact blk_alloc _ _ _ (by simp)
  rw [hW1]
  clear hW1
  have HP := Lib.hid (And.intro p2 hb01)
  obtain ⟨a0, a1, a2, af⟩ := cells3 p0
  obtain ⟨b0, b1, b2, b3, bf⟩ := cells4 p1
  obtain ⟨r0, r1, r2, rf⟩ := cells3 p2
  by_cases h1 : s.rule < 0
  · have h1' : decide (s.rule < 0) = true := by simpa using h1
    go_wp2
    rw [apply_err (show moveE c s = 1 by unfold moveE; rw [if_pos (.inl h1)]) (by decide)]
    exact bodyPost_ret (results_list (rs := [.cell 4 24, .tmp 5, .tmp 6]) rfl (by simp) (.cell (w.heap.size + 1 + 1) 24 _ _ _ rfl (set3 HP.out.1) Tryz.underlying24 rfl (by kernel_rfl) (.tmp (.tmp .nil)))) rfl
        ⟨_, rfl, own_nil _ _ _ _, ((HP.out.2.setCell (by simp; omega) _).setCell (by simp; omega) _).setCell (by simp; omega) _⟩
  have h1' : decide (s.rule < 0) = false := by simpa using h1
  by_cases h2 : 44 ≤ s.rule
  · have h2' : decide (44 ≤ s.rule) = true := by simpa using h2
    go_wp2
    rw [apply_err (show moveE c s = 1 by unfold moveE; rw [if_pos (.inr h2)]) (by decide)]
    exact bodyPost_ret (results_list (rs := [.cell 4 24, .tmp 5, .tmp 6]) rfl (by simp) (.cell (w.heap.size + 1 + 1) 24 _ _ _ rfl (set3 HP.out.1) Tryz.underlying24 rfl (by kernel_rfl) (.tmp (.tmp .nil)))) rfl
        ⟨_, rfl, own_nil _ _ _ _, ((HP.out.2.setCell (by simp; omega) _).setCell (by simp; omega) _).setCell (by simp; omega) _⟩
  have h2' : decide (44 ≤ s.rule) = false := by simpa using h2
  by_cases h3 : s.at_ < 0
  · have h3' : decide (s.at_ < 0) = true := by simpa using h3
    go_wp2
    rw [apply_err (show moveE c s = 3 by unfold moveE; rw [if_neg (by omega), if_pos (.inl h3)]) (by decide)]
    exact bodyPost_ret (results_list (rs := [.cell 4 24, .tmp 5, .tmp 6]) rfl (by simp) (.cell (w.heap.size + 1 + 1) 24 _ _ _ rfl (set3 HP.out.1) Tryz.underlying24 rfl (by kernel_rfl) (.tmp (.tmp .nil)))) rfl
        ⟨_, rfl, own_nil _ _ _ _, ((HP.out.2.setCell (by simp; omega) _).setCell (by simp; omega) _).setCell (by simp; omega) _⟩
  have h3' : decide (s.at_ < 0) = false := by simpa using h3
  by_cases h4 : (c.gates.length : Int) < s.at_
  · have h4' : decide ((c.gates.length : Int) < s.at_) = true := by simpa using h4
    go_wp2
    rw [apply_err (show moveE c s = 3 by unfold moveE; rw [if_neg (by omega), if_pos (.inr h4)]) (by decide)]
    exact bodyPost_ret (results_list (rs := [.cell 4 24, .tmp 5, .tmp 6]) rfl (by simp) (.cell (w.heap.size + 1 + 1) 24 _ _ _ rfl (set3 HP.out.1) Tryz.underlying24 rfl (by kernel_rfl) (.tmp (.tmp .nil)))) rfl
        ⟨_, rfl, own_nil _ _ _ _, ((HP.out.2.setCell (by simp; omega) _).setCell (by simp; omega) _).setCell (by simp; omega) _⟩
  have h4' : decide ((c.gates.length : Int) < s.at_) = false := by simpa using h4
  obtain ⟨i, hi⟩ : ∃ i : Nat, s.rule = (i : Int) := ⟨s.rule.toNat, by omega⟩
  have hi44 : i < 44 := by omega
  rw [hi] at b0
  go_upto_region 6 with fail
  clear HP
  obtain ⟨fx, hfx, eg, hfit⟩ := fits_any i s.back
  have HFX := Lib.hid (And.intro hfx hfit)
  clear hfx hfit
  have hg4 : ∀ {W2 : World}, Below W1.drew.heap.size W1.drew W2 → W2.cell? ⟨w.heap.size + 1, 3, none⟩ = some (.slice B s.wires.length d) := fun hb => kc hb (by go_simp)
  have hbd : Below w.heap.size w W1.drew := by (repeat (first|exact bR _ _|assumption|apply bN|apply bA|apply bD))
  refine wp_region_sg (by kernel_rfl) [0, 1, 2, 3, 4, 5, 6, 7, 8] (by kernel_rfl) (by kernel_rfl) (by kernel_rfl) ?_
  refine SG.p (v := ?v1_6_0) rfl rfl rfl (fun W => ?h1_6_0) ?r1_6_0
  case h1_6_0 => (first|(go_simp;done)|(go_simp;with_reducible rfl))
  simp only [Act.put, pA, pB, pC]
  refine SG.l (v := ?v1_6_1) rfl rfl rfl ?h1_6_1 ?r1_6_1
  case h1_6_1 => (first|(go_simp;done)|(go_simp;with_reducible rfl))
  simp only [Act.put, pA, pB, pC]
  refine SG.p (v := ?v1_6_2) rfl rfl rfl (fun W => ?h1_6_2) ?r1_6_2
  case h1_6_2 => (first|(go_simp;done)|(go_simp;with_reducible rfl))
  simp only [Act.put, pA, pB, pC]
  refine SG.p (v := ?v1_6_3) rfl rfl rfl (fun W => ?h1_6_3) ?r1_6_3
  case h1_6_3 => (first|(go_simp;done)|(go_simp;with_reducible rfl))
  simp only [Act.put, pA, pB, pC]
  refine SG.l (v := ?v1_6_4) rfl rfl rfl ?h1_6_4 ?r1_6_4
  case h1_6_4 => (first|(go_simp;done)|(go_simp;with_reducible rfl))
  simp only [Act.put, pA, pB, pC]
  refine SG.c rfl rfl rfl (by first|(go_simp;done)|(go_simp;with_reducible rfl)|(go_simp;exact ⟨⟨rfl, rfl⟩, rfl⟩)) ?_
  refine (ruled_any i hi44 _ (Lib.hid (HT.out.below hbd))).mono ?_
  rintro e w2 ⟨v1, v2, rfl, ho1, ho2, hb⟩
  obtain ⟨A1, c1, rfl, _⟩ := ho1.form'
  obtain ⟨A2, c2, rfl, _⟩ := ho2.form'
  clear ho1 ho2
  rw [HFX.out.1]
  have hfd : ∀ W : World, (Instr.field 88 (.agg #[.slice A1 (ruleL i).length c1, .slice A2 (ruleR i).length c2, .int .i64 (ruleW i), .int .i64 (ruleP i), .func (.func fx) #[] #[]]) 2).run Tryz.prog W = .ok (.int .i64 (ruleW i)) W := fun W => by kernel_rfl
  have hl2 := hg4 hb
  refine ⟨_, rfl, ?_, ?_⟩
  · exact ⟨(nw (by kernel_rfl)), (fun _ => ⟨_, drop_at rfl, by (first|(go_simp;done)|(go_simp;with_reducible rfl))⟩), trivial⟩
  simp only [Act.put, pA, pB, pC]
  refine SG.p (v := ?v1_6_6) rfl rfl rfl (fun W => ?h1_6_6) ?r1_6_6
  case h1_6_6 => (first|(go_simp;done)|(go_simp;with_reducible rfl))
  simp only [Act.put, pA, pB, pC]
  refine SG.p (v := ?v1_6_7) rfl rfl rfl (fun W => ?h1_6_7) ?r1_6_7
  case h1_6_7 => (first|(go_simp;done)|(go_simp;with_reducible rfl))
  simp only [Act.put, pA, pB, pC]
  refine SG.p (v := ?v1_6_8) rfl rfl rfl (fun W => ?h1_6_8) ?r1_6_8
  case h1_6_8 => (first|(go_simp;done)|(go_simp;with_reducible rfl))
  simp only [Act.put, pA, pB, pC]
  simp only [SG]
  replace hb : Below W1.heap.size W1 w2 := (Below.drew (Below.refl _ _)).trans hb
  have hb02 := hb01.trans (hb.mono hb01.size)
  have hti : s.rule.toNat = i := by omega
  clear hg4 hbd hfd hl2 hb01 hz1
  replace p0 := blk2 hb p0
  replace p1 := blk2 hb p1
  replace p2 := blk2 hb p2
  clear a0 a1 a2 af b0 b1 b2 b3 bf r0 r1 r2 rf
  obtain ⟨a0, a1, a2, af⟩ := cells3 p0
  obtain ⟨b0, b1, b2, b3, bf⟩ := cells4 p1
  obtain ⟨r0, r1, r2, rf⟩ := cells3 p2
  rw [hi] at b0
  have HP := Lib.hid (And.intro p2 hb02)
  clear hb
  by_cases h5 : (s.wires.length : Int) ≠ ruleW i
  · have h5' : ((s.wires.length : Int) != ruleW i) = true := by simpa using h5
    go_wp2
    rw [apply_err (show moveE c s = 2 by unfold moveE; rw [if_neg (by omega), if_neg (by omega), if_pos (by rw [hti]; exact h5)]) (by decide)]
    exact bodyPost_ret (results_list (rs := [.cell 4 24, .tmp 5, .tmp 6]) rfl (by simp) (.cell (w.heap.size + 1 + 1) 24 _ _ _ rfl (set3 HP.out.1) Tryz.underlying24 rfl (by kernel_rfl) (.tmp (.tmp .nil)))) rfl
        ⟨_, rfl, own_nil _ _ _ _, ((HP.out.2.setCell (by simp; omega) _).setCell (by simp; omega) _).setCell (by simp; omega) _⟩
  have h5' : ((s.wires.length : Int) != ruleW i) = false := by simpa using h5
  clear HP
  have hwl3 : s.wires.length ≤ 3 := by have := (ruleW_le i hi44).2; have := Classical.byContradiction h5; omega
  go_upto_region 8 with fail
  have hc8 := rulesEveryI_any B d s.wires 102 #[.pointer (some ⟨w.heap.size, 0, none⟩)] (fun n => decide (0 ≤ n ∧ n < c.wires)) w2 (HH.out.2.1.bI hb02) (applyWire_any w.heap.size c.wires w2 s.wires (fun w1 hb => kc hb a0)) (enters_of Tryz.func102 (by kernel_rfl) rfl)
  obtain ⟨al, hal⟩ : ∃ b, s.wires.all (fun n => decide (0 ≤ n ∧ n < c.wires)) = b := ⟨_, rfl⟩
  rw [hal] at hc8
  go_wp2_with fail
  refine hc8.mono ?_
  clear hc8
  rintro e w3 ⟨rfl, hb⟩
  have hb03 := hb02.trans (hb.mono hb02.size)
  clear hb02
  replace p0 := blk2 hb p0
  replace p1 := blk2 hb p1
  replace p2 := blk2 hb p2
  clear a0 a1 a2 af b0 b1 b2 b3 bf r0 r1 r2 rf
  obtain ⟨a0, a1, a2, af⟩ := cells3 p0
  obtain ⟨b0, b1, b2, b3, bf⟩ := cells4 p1
  obtain ⟨r0, r1, r2, rf⟩ := cells3 p2
  rw [hi] at b0
  have HP := Lib.hid (And.intro p2 hb03)
  clear hb
  cases al with
  | false =>
    go_wp2
    rw [apply_err (show moveE c s = 1 by unfold moveE; rw [if_neg (by omega), if_neg (by omega), if_neg (by rw [hti]; exact h5), if_pos hal]) (by decide)]
    exact bodyPost_ret (results_list (rs := [.cell 4 24, .tmp 5, .tmp 6]) rfl (by simp) (.cell (w.heap.size + 1 + 1) 24 _ _ _ rfl (set3 HP.out.1) Tryz.underlying24 rfl (by kernel_rfl) (.tmp (.tmp .nil)))) rfl
        ⟨_, rfl, own_nil _ _ _ _, ((HP.out.2.setCell (by simp; omega) _).setCell (by simp; omega) _).setCell (by simp; omega) _⟩
  | true =>
  clear HP
  go_upto_region 10 with fail
  have hg4 : ∀ {W2 : World}, Below w3.drew.heap.size w3.drew W2 → W2.cell? ⟨w.heap.size + 1, 3, none⟩ = some (.slice B s.wires.length d) := fun hb => kc hb (by go_simp)
  have hbd : Below w.heap.size w w3.drew := by (repeat (first|exact bR _ _|assumption|apply bN|apply bA|apply bD))
  obtain ⟨q, hq⟩ : ∃ q, (Lib.compact (sortI s.wires)).length = q := ⟨_, rfl⟩
  have hqn := compact_nodup s.wires
  rw [hq] at hqn
  have HQN := Lib.hid hqn
  clear hqn
  refine wp_region_sg (by kernel_rfl) [0, 1, 6, 7, 8, 2, 3, 4, 5, 9, 10] (by kernel_rfl) (by kernel_rfl) (by kernel_rfl) ?_
  refine SG.p (v := ?v2_10_0) rfl rfl rfl (fun W => ?h2_10_0) ?r2_10_0
  case h2_10_0 => (first|(go_simp;done)|(go_simp;with_reducible rfl))
  simp only [Act.put, pA, pB, pC]
  refine SG.l (v := ?v2_10_1) rfl rfl rfl ?h2_10_1 ?r2_10_1
  case h2_10_1 => (first|(go_simp;done)|(go_simp;with_reducible rfl))
  simp only [Act.put, pA, pB, pC]
  refine SG.p (v := ?v2_10_6) rfl rfl rfl (fun W => ?h2_10_6) ?r2_10_6
  case h2_10_6 => (first|(go_simp;done)|(go_simp;with_reducible rfl))
  simp only [Act.put, pA, pB, pC]
  refine SG.l (v := ?v2_10_7) rfl rfl rfl ?h2_10_7 ?r2_10_7
  case h2_10_7 => (first|(go_simp;done)|(go_simp;with_reducible rfl))
  simp only [Act.put, pA, pB, pC]
  refine SG.p (v := ?v2_10_8) rfl rfl rfl (fun W => ?h2_10_8) ?r2_10_8
  case h2_10_8 => (first|(go_simp;done)|(go_simp;with_reducible rfl))
  simp only [Act.put, pA, pB, pC]
  refine SG.c rfl rfl rfl (by first|(go_simp;done)|(go_simp;with_reducible rfl)|(go_simp;exact ⟨⟨rfl, rfl⟩, rfl⟩)) ?_
  refine (Values_any B s.wires.length d _).mono ?_
  rintro e w4 ⟨rfl, hw4⟩
  have hb4 : Below w3.drew.heap.size w3.drew w4 := by rw [hw4]; (repeat (first|exact bR _ _|assumption|apply bN|apply bA|apply bD))
  have hl4 := hg4 hb4
  have hB4 : w4.cell? ⟨w3.heap.size, 0, none⟩ = some (.slice B s.wires.length d) := by rw [hw4]; exact (World.cell?_alloc_new _ _ _ 0).trans rfl
  clear hw4
  refine ⟨_, rfl, ?_, ?_⟩
  · exact ⟨(fun _ => ⟨_, drop_at rfl, by (first|(go_simp;done)|(go_simp;with_reducible rfl))⟩), (nw (by kernel_rfl)), trivial⟩
  simp only [Act.put, pA, pB, pC]
  refine SG.c rfl rfl rfl (by first|(go_simp;done)|(go_simp;with_reducible rfl)|(go_simp;exact ⟨⟨rfl, rfl⟩, rfl⟩)) ?_
  refine (Sorted_any 141 #[.pointer (some ⟨w3.heap.size, 0, none⟩)] (enters_of Tryz.func141 (by kernel_rfl) rfl) s.wires w.heap.size w4 (hbd.trans (hb4.mono hbd.size)).size (by omega) (values1_iter w3.heap.size B d s.wires w w4 HH.out.2.1 (hbd.trans (hb4.mono hbd.size)) hB4)).mono ?_
  rintro e w5 ⟨v5, rfl, ho5, hb5⟩
  have hb45 := hb4.trans (hb5.mono hb4.size)
  have hl5 := hg4 hb45
  have hc5 := Compact_app (sortI s.wires) v5 w4.heap.size w5 ho5 hb5.size (by rw [sortI_length]; omega)
  rw [hq] at hc5
  clear hb5
  refine ⟨_, rfl, ?_, ?_⟩
  · exact ⟨(fun _ => ⟨_, drop_at rfl, by (first|(go_simp;done)|(go_simp;with_reducible rfl))⟩), (fun _ => ⟨_, drop_at rfl, by (first|(go_simp;done)|(go_simp;with_reducible rfl))⟩), trivial⟩
  simp only [Act.put, pA, pB, pC]
  refine SG.c rfl rfl rfl (by first|(go_simp;done)|(go_simp;with_reducible rfl)|(go_simp;exact ⟨⟨rfl, rfl⟩, rfl⟩)) ?_
  refine hc5.mono ?_
  rintro e w6 ⟨A6, c6, rfl, hb6⟩
  have hb46 := hb45.trans (hb6.mono hb4.size)
  have hl6 := hg4 hb46
  clear hc5
  refine ⟨_, rfl, ?_, ?_⟩
  · exact ⟨(fun _ => ⟨_, drop_at rfl, by (first|(go_simp;done)|(go_simp;with_reducible rfl))⟩), (fun _ => ⟨_, drop_at rfl, by (first|(go_simp;done)|(go_simp;with_reducible rfl))⟩), trivial⟩
  simp only [Act.put, pA, pB, pC]
  refine SG.p (v := ?v2_10_5) rfl rfl rfl (fun W => ?h2_10_5) ?r2_10_5
  case h2_10_5 => (first|(go_simp;done)|(go_simp;with_reducible rfl))
  simp only [Act.put, pA, pB, pC]
  refine SG.p (v := ?v2_10_9) rfl rfl rfl (fun W => ?h2_10_9) ?r2_10_9
  case h2_10_9 => (first|(go_simp;done)|(go_simp;with_reducible rfl))
  simp only [Act.put, pA, pB, pC]
  refine SG.p (v := ?v2_10_10) rfl rfl rfl (fun W => ?h2_10_10) ?r2_10_10
  case h2_10_10 => (first|(go_simp;done)|(go_simp;with_reducible rfl))
  simp only [Act.put, pA, pB, pC]
  simp only [SG]
  have hb : Below w3.heap.size w3 w6 := (Below.drew (Below.refl _ _)).trans hb46
  have hb06 := hb03.trans (hb.mono hb03.size)
  clear hg4 hbd hl4 hl5 hl6 hB4 hb4 hb45 ho5 hb46 hb6 hb03
  replace p0 := blk2 hb p0
  replace p1 := blk2 hb p1
  replace p2 := blk2 hb p2
  clear a0 a1 a2 af b0 b1 b2 b3 bf r0 r1 r2 rf
  obtain ⟨a0, a1, a2, af⟩ := cells3 p0
  obtain ⟨b0, b1, b2, b3, bf⟩ := cells4 p1
  obtain ⟨r0, r1, r2, rf⟩ := cells3 p2
  rw [hi] at b0
  have HP := Lib.hid (And.intro p2 hb06)
  clear hb
  by_cases h7 : ¬ s.wires.Nodup
  · have h7' : q < s.wires.length := HQN.out.2 h7
    go_wp2
    rw [apply_err (show moveE c s = 5 by unfold moveE; rw [if_neg (by omega), if_neg (by omega), if_neg (by rw [hti]; exact h5), if_neg (by rw [hal]; simp), if_pos h7]) (by decide)]
    exact bodyPost_ret (results_list (rs := [.cell 4 24, .tmp 5, .tmp 6]) rfl (by simp) (.cell (w.heap.size + 1 + 1) 24 _ _ _ rfl (set3 HP.out.1) Tryz.underlying24 rfl (by kernel_rfl) (.tmp (.tmp .nil)))) rfl
        ⟨_, rfl, own_nil _ _ _ _, ((HP.out.2.setCell (by simp; omega) _).setCell (by simp; omega) _).setCell (by simp; omega) _⟩
  have h7' : ¬ q < s.wires.length := fun x => h7 (HQN.out.1 x)
  clear HP
  go_upto_region 12 with fail
  have hg4 : ∀ {W2 : World}, Below w6.drew.heap.size w6.drew W2 → W2.cell? ⟨w.heap.size + 1, 2, none⟩ = some (.bool s.back) ∧ W2.cell? ⟨w.heap.size + 1, 0, none⟩ = some (.int .i64 i) := fun hb => ⟨kc hb (by go_simp), kc hb (by go_simp)⟩
  have hbd : Below w.heap.size w w6.drew := by (repeat (first|exact bR _ _|assumption|apply bN|apply bA|apply bD))
  refine wp_region_sg (by kernel_rfl) [0, 1, 4, 5, 2, 3, 6, 7, 8] (by kernel_rfl) (by kernel_rfl) (by kernel_rfl) ?_
  refine SG.p (v := ?v3_12_0) rfl rfl rfl (fun W => ?h3_12_0) ?r3_12_0
  case h3_12_0 => (first|(go_simp;done)|(go_simp;with_reducible rfl))
  simp only [Act.put, pA, pB, pC]
  refine SG.l (v := ?v3_12_1) rfl rfl rfl ?h3_12_1 ?r3_12_1
  case h3_12_1 => (first|(go_simp;done)|(go_simp;with_reducible rfl))
  simp only [Act.put, pA, pB, pC]
  refine SG.p (v := ?v3_12_4) rfl rfl rfl (fun W => ?h3_12_4) ?r3_12_4
  case h3_12_4 => (first|(go_simp;done)|(go_simp;with_reducible rfl))
  simp only [Act.put, pA, pB, pC]
  refine SG.l (v := ?v3_12_5) rfl rfl rfl ?h3_12_5 ?r3_12_5
  case h3_12_5 => (first|(go_simp;done)|(go_simp;with_reducible rfl))
  simp only [Act.put, pA, pB, pC]
  refine SG.c rfl rfl rfl (by first|(go_simp;done)|(go_simp;with_reducible rfl)|(go_simp;exact ⟨⟨rfl, rfl⟩, rfl⟩)) ?_
  refine (ruled_any i hi44 _ (Lib.hid (HT.out.below hbd))).mono ?_
  rintro e w7 ⟨v1, v2, rfl, ho1, ho2, hb7⟩
  obtain ⟨A1', c1', rfl, _⟩ := ho1.form'
  obtain ⟨A2', c2', rfl, _⟩ := ho2.form'
  clear ho1 ho2
  rw [HFX.out.1]
  have hfd : ∀ W : World, (Instr.field 88 (.agg #[.slice A1' (ruleL i).length c1', .slice A2' (ruleR i).length c2', .int .i64 (ruleW i), .int .i64 (ruleP i), .func (.func fx) #[] #[]]) 4).run Tryz.prog W = .ok (.func (.func fx) #[] #[]) W := fun W => by kernel_rfl
  obtain ⟨hl7, hl7'⟩ := hg4 hb7
  refine ⟨_, rfl, ?_, ?_⟩
  · exact ⟨(fun _ => ⟨_, drop_at rfl, by (first|(go_simp;done)|(go_simp;with_reducible rfl))⟩), (nw (by kernel_rfl)), trivial⟩
  simp only [Act.put, pA, pB, pC]
  refine SG.p (v := ?v3_12_3) rfl rfl rfl (fun W => ?h3_12_3) ?r3_12_3
  case h3_12_3 => (first|(go_simp;done)|(go_simp;with_reducible rfl))
  simp only [Act.put, pA, pB, pC]
  refine SG.c rfl rfl rfl (by first|(go_simp;done)|(go_simp;with_reducible rfl)|(go_simp;exact ⟨⟨rfl, rfl⟩, rfl⟩)) ?_
  refine (HFX.out.2 _).mono ?_
  rintro e w8 ⟨rfl, rfl⟩
  refine ⟨_, rfl, ?_, ?_⟩
  · exact ⟨(nw (by kernel_rfl)), (fun _ => ⟨_, drop_at rfl, by (first|(go_simp;done)|(go_simp;with_reducible rfl))⟩), trivial⟩
  simp only [Act.put, pA, pB, pC]
  refine SG.p (v := ?v3_12_7) rfl rfl rfl (fun W => ?h3_12_7) ?r3_12_7
  case h3_12_7 => (first|(go_simp;done)|(go_simp;with_reducible rfl))
  simp only [Act.put, pA, pB, pC]
  refine SG.p (v := ?v3_12_8) rfl rfl rfl (fun W => ?h3_12_8) ?r3_12_8
  case h3_12_8 => (first|(go_simp;done)|(go_simp;with_reducible rfl))
  simp only [Act.put, pA, pB, pC]
  simp only [SG]
  have hb : Below w6.heap.size w6 w7 := (Below.drew (Below.refl _ _)).trans hb7
  have hb07 := hb06.trans (hb.mono hb06.size)
  clear hg4 hbd hl7 hl7' hfd hb7 hb06
  replace p0 := blk2 hb p0
  replace p1 := blk2 hb p1
  replace p2 := blk2 hb p2
  clear a0 a1 a2 af b0 b1 b2 b3 bf r0 r1 r2 rf
  obtain ⟨a0, a1, a2, af⟩ := cells3 p0
  obtain ⟨b0, b1, b2, b3, bf⟩ := cells4 p1
  obtain ⟨r0, r1, r2, rf⟩ := cells3 p2
  rw [hi] at b0
  have HP := Lib.hid (And.intro p2 hb07)
  clear hb
  cases hfn : fitN i s.back with
  | false =>
    have hfl : s.rule = 43 ∧ s.back = true := by unfold fitN at hfn; simp at hfn; exact ⟨by omega, hfn.2⟩
    go_wp2
    rw [apply_err (show moveE c s = 7 by unfold moveE; rw [if_neg (by omega), if_neg (by omega), if_neg (by rw [hti]; exact h5), if_neg (by rw [hal]; simp), if_neg h7, if_pos hfl]) (by decide)]
    exact bodyPost_ret (results_list (rs := [.cell 4 24, .tmp 5, .tmp 6]) rfl (by simp) (.cell (w.heap.size + 1 + 1) 24 _ _ _ rfl (set3 HP.out.1) Tryz.underlying24 rfl (by kernel_rfl) (.tmp (.tmp .nil)))) rfl
        ⟨_, rfl, own_nil _ _ _ _, ((HP.out.2.setCell (by simp; omega) _).setCell (by simp; omega) _).setCell (by simp; omega) _⟩
  | true =>
  have hm : moveE c s = 0 := by
    unfold moveE; rw [if_neg (by omega), if_neg (by omega), if_neg (by rw [hti]; exact h5), if_neg (by rw [hal]; simp), if_neg h7, if_neg]
    rintro ⟨e1, e2⟩
    have e3 : i = 43 := by omega
    simp [fitN, e3, e2] at hfn
  have hst := step_any A B k d c s w7 (Lib.hid (HT.out.below hb07)) (HH.out.1.bG hb07) hk (HH.out.2.1.bI hb07) HH.out.2.2 hm
  rw [hi] at hst
  have HM := Lib.hid hm
  clear hm
  go_wp2_with fail
  refine hst.mono ?_
  clear hst
  obtain ⟨⟨er, cc, ph⟩, hx⟩ : ∃ x, stepR c s = x := ⟨_, rfl⟩
  have HXX := Lib.hid (show applyR c s = (er, cc, ph) by unfold applyR; rw [if_pos HM.out, hx])
  rw [hx]
  clear hx
  rintro e w9 ⟨v, rfl, ho, hb⟩
  obtain ⟨A9, c9, rfl, _⟩ := ho.form'
  have hb09 := hb07.trans (hb.mono hb07.size)
  have HO := Lib.hid (show Own 3 55 (w.heap.size + 1 + 1 + 1) w9 (.slice A9 cc.gates.length c9) cc.gates from ho.weak (by have := blk_lt p2; omega))
  clear ho hb07
  replace p0 := blk2 hb p0
  replace p1 := blk2 hb p1
  replace p2 := blk2 hb p2
  clear a0 a1 a2 af b0 b1 b2 b3 bf r0 r1 r2 rf
  obtain ⟨a0, a1, a2, af⟩ := cells3 p0
  obtain ⟨b0, b1, b2, b3, bf⟩ := cells4 p1
  obtain ⟨r0, r1, r2, rf⟩ := cells3 p2
  rw [hi] at b0
  have HP := Lib.hid (And.intro p2 hb09)
  clear hb
  dsimp only
  go_wp2
  rw [HXX.out]
  refine bodyPost_ret (results_list (rs := [.cell 4 24, .tmp 5, .tmp 6]) rfl (by simp) (.cell (w.heap.size + 1 + 1) 24 _ _ _ rfl (set3 HP.out.1) Tryz.underlying24 rfl (by kernel_rfl) (.tmp (.tmp .nil)))) rfl
    ⟨.slice A9 cc.gates.length c9, rfl, ?_, ?_⟩
  · exact (((HO.out.setCell (by simp) _).setCell (by simp) _).setCell (by simp) _).weak (by omega)
  · exact ((HP.out.2.setCell (by simp; omega) _).setCell (by simp; omega) _).setCell (by simp; omega) _
end Go.Proofs.YtfommmijojfdbaaGreatDoor
