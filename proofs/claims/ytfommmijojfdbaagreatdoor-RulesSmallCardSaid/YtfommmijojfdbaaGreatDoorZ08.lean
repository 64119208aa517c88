/- Part 9 of the proof that 'spoondriftlaw19.RulesApplies' holds for every input; it has no condition beyond the statement's own. -/
import Derived.Test.YtfommmijojfdbaaGreatDoorZ05
import Derived.Test.YtfommmijojfdbaaGreatDoorZ07
import Derived.Test.YtfommmijojfdbaaGreatDoorZ01
import Derived.Test.YtfommmijojfdbaaGreatDoorZ04
import Derived.Test.YtfommmijojfdbaaGreatDoorZ06
import Derived.OneCell
import Derived.OwnWalkIn
set_option linter.all false
namespace Go.Proofs.YtfommmijojfdbaaGreatDoor
open Go.RowKit
theorem blkF {W w2 : World} {b : Nat} {o : Obj} (hb : Below W.heap.size W w2) (h : W.heap[b]? = some o) : w2.heap[b]? = some o :=
  (hb.block b (Array.getElem?_eq_some_iff.1 h).1).trans h
theorem gateErr_of {wires bits : Int} {g : G} {n : Int} (h1 : ¬ arity g.kind = 0) (h2 : (g.wires.length : Int) = arity g.kind) (h3 : g.wires.all (fun n => decide (0 ≤ n ∧ n < wires)) = true) (h4 : g.wires.Nodup)
    (h5 : n = if (g.cif < 0 ∨ bits < g.cif) ∨ g.kind = 13 ∧ (g.bit < 0 ∨ bits ≤ g.bit) then 1 else if (g.kind = 13 ∨ g.kind = 14) ∧ g.cif ≠ 0 ∨ g.kind ≠ 13 ∧ g.bit ≠ 0 then 7 else 0) : n = gateErr wires bits g := by
  unfold gateErr
  rw [if_neg h1, if_neg (by simp [h2]), if_neg (by rw [h3]; simp), if_neg (by simp [h4])]
  exact h5
theorem arity_kind {k : Int} (h : ¬ arity k = 0) : 1 ≤ k ∧ k ≤ 14 := by
  unfold arity at h
  (repeat' split at h) <;> omega
set_option maxRecDepth 100000 in
set_option maxHeartbeats 4000000 in
theorem rCheckGate_any (A : Option Addr) (c : Nat) (wires bits : Int) (g : G) (w : World) (h : RdI w A g.wires) (hc : g.wires.length ≤ c) (hw : 1 ≤ wires ∧ wires ≤ 12) (hb : 0 ≤ bits ∧ bits ≤ 8) :
    Calls Tryz.prog 120 #[.agg #[.int .i64 g.kind, .slice A g.wires.length c, .int .i64 g.bit, .int .i64 g.cif], .int .i64 wires, .int .i64 bits] w fun e w' => e = .returned (.int .i64 (gateErr wires bits g)) ∧ Below w.heap.size w w' := by
  have hl := h.1
  have HH := Lib.hid h
  have hw1 : IntKind.i64.wrap (wires - 1) = wires - 1 := IntWalk.i64_in _ (by omega)
  have hw2 : IntKind.i64.wrap (bits - 1) = bits - 1 := IntWalk.i64_in _ (by omega)
  clear h
  go_enter Tryz.func120, Tryz.ntmps120
  by_cases ha : arity g.kind = 0
  case pos =>
    have t1 : (arity g.kind == 0) = true := by simpa using ha
    have H1 := Lib.hid ha
    clear ha
    go_wp2_with (go_at_call 148; refine (rArity_any _ _).mono ?_; rintro e w' ⟨rfl, rfl⟩)
    go_ret
    exact ⟨ret_int (by unfold gateErr; rw [if_pos H1.out]), by (repeat (first|exact bR _ _|assumption|apply bN|apply bA|apply bD))⟩
  have t1 : (arity g.kind == 0) = false := by simpa using ha
  have H1 := Lib.hid ha
  clear ha
  go_wp2_with (go_at_call 148; refine (rArity_any _ _).mono ?_; rintro e w' ⟨rfl, rfl⟩)
  obtain ⟨W1, hW1⟩ : ∃ W1, w.alloc (.cells #[.int .i64 g.kind, .slice A g.wires.length c, .int .i64 g.bit, .int .i64 g.cif] 55) = W1 := ⟨_, rfl⟩
  have hb1 : Below w.heap.size w W1 := by rw [← hW1]; (repeat (first|exact bR _ _|assumption|apply bN|apply bA|apply bD))
  obtain ⟨k0, k1, k2, k3, kf⟩ := cells4 (show W1.heap[w.heap.size]? = _ by rw [← hW1]; exact heap_alloc_new _ _)
  rw [hW1]
  clear hW1
  by_cases hn : (g.wires.length : Int) = arity g.kind
  case neg =>
    have t2 : ((g.wires.length : Int) != arity g.kind) = true := by simpa using hn
    have H2 := Lib.hid hn
    clear hn
    go_quiet ((go_at_call 148; exact q_same (rArity_any _ _)))
    go_wp2
    go_ret
    exact ⟨ret_int (by unfold gateErr; rw [if_neg H1.out, if_pos H2.out]), by (repeat (first|exact bR _ _|assumption|apply bN|apply bA|apply bD))⟩
  have t2 : ((g.wires.length : Int) != arity g.kind) = false := by simpa using hn
  have H2 := Lib.hid hn
  clear hn
  go_quiet ((go_at_call 148; exact q_same (rArity_any _ _)))
  go_wp2
  have hrd := HH.out.bI hb1
  have HW := Lib.hid hb1
  clear hb1 t1 t2
  go_loop [7] (fun i => ∃ k : Nat, k ≤ g.wires.length ∧ i = .int .i64 k ∧ Hid ((g.wires.take k).all (fun n => decide (0 ≤ n ∧ n < wires)) = true)) (fun i => g.wires.length - (intOf i).toNat)
  case atStart => exact ⟨0, Nat.zero_le _, rfl, Lib.hid (by simp)⟩
  case round =>
    obtain ⟨k, hk, rfl, HI⟩ := hrel
    by_cases hlt : k < g.wires.length
    · obtain ⟨b, o, rfl, hx⟩ := hrd.int k hlt
      clear hrd
      obtain ⟨y, hy⟩ : ∃ y, g.wires[k] = y := ⟨_, rfl⟩
      rw [hy] at hx
      by_cases ho : 0 ≤ y ∧ y < wires
      · have HO := Lib.hid (And.intro ho hy)
        have hf : decide (y < 0 ∨ wires - 1 < y) = false := by rw [decide_eq_false_iff_not]; omega
        clear ho hy
        go_wp2_with (go_at_call 119; refine (rOff_any _ _ _ _).mono ?_; rintro e w' ⟨rfl, rfl⟩)
        go_round
        case rel => exact ⟨k + 1, by omega, by go_num, Lib.hid (by rw [List.take_succ_eq_append_getElem hlt, List.all_append, HI.out, HO.out.2]; simpa using HO.out.1)⟩
        case measure => simp [intOf]; omega
      · have HO := Lib.hid (And.intro ho hy)
        have hf : decide (y < 0 ∨ wires - 1 < y) = true := by rw [decide_eq_true_eq]; omega
        clear ho hy
        go_wp2_with (go_at_call 119; refine (rOff_any _ _ _ _).mono ?_; rintro e w' ⟨rfl, rfl⟩)
        go_ret
        exact ⟨ret_int (by
          unfold gateErr
          rw [if_neg H1.out, if_neg (by simp [H2.out]), if_pos]
          rw [List.all_eq_false]
          exact ⟨_, List.getElem_mem hlt, by rw [HO.out.2]; simpa using HO.out.1⟩), by have := HW.out; (repeat (first|exact bR _ _|assumption|apply bN|apply bA|apply bD))⟩
    · have HA := Lib.hid (show g.wires.all (fun n => decide (0 ≤ n ∧ n < wires)) = true by have := HI.out; rwa [List.take_of_length_le (by omega)] at this)
      clear HI hrd
      go_wp2
      go_loopw [8] (fun i wr => ∃ j : Nat, j ≤ g.wires.length ∧ i = .int .i64 j ∧ Hid ((g.wires.take j).Nodup) ∧ ∃ n, wr = W1.drewN n) (fun i _ => g.wires.length - (intOf i).toNat)
      case atStart => exact ⟨0, Nat.zero_le _, rfl, Lib.hid (by simp), _, rfl⟩
      case round =>
        clear hlt hk
        obtain ⟨j, hj, rfl, HN, n, rfl⟩ := hrel
        have hrd := HH.out.bI HW.out
        by_cases hlt : j < g.wires.length
        · obtain ⟨b, o, rfl, hx⟩ := hrd.int j hlt
          have hkc : j ≤ c := by omega
          have hmin : min j g.wires.length = j := by omega
          by_cases hm : g.wires[j] ∈ g.wires.take j
          · have HM := Lib.hid hm
            clear hm hrd
            go_wp2
            go_quiet ((go_at_call 144; exact q_same2 (rHas_is _ j c (g.wires.take j) _ _ ((HH.out.bI (by have := HW.out; (repeat (first|exact bR _ _|assumption|apply bN|apply bA|apply bD)))).take j) (by rw [List.length_take]; exact hmin) true (decide_eq_true HM.out))))
            go_wp2
            go_ret
            exact ⟨ret_int (by unfold gateErr; rw [if_neg H1.out, if_neg (by simp [H2.out]), if_neg (by rw [HA.out]; simp), if_pos (not_nodup_take j hlt HM.out)]), by have := HW.out; (repeat (first|exact bR _ _|assumption|apply bN|apply bA|apply bD))⟩
          · have HM := Lib.hid hm
            clear hm hrd
            go_wp2
            go_quiet ((go_at_call 144; exact q_same2 (rHas_is _ j c (g.wires.take j) _ _ ((HH.out.bI (by have := HW.out; (repeat (first|exact bR _ _|assumption|apply bN|apply bA|apply bD)))).take j) (by rw [List.length_take]; exact hmin) false (decide_eq_false HM.out))))
            go_wp2
            go_roundw
            case rel => exact ⟨j + 1, by omega, by go_num, Lib.hid (nodup_take_succ j hlt HN.out HM.out), _, rfl⟩
            case measure => simp [intOf]; omega
        · have HD := Lib.hid (show g.wires.Nodup by have := HN.out; rwa [List.take_of_length_le (by omega)] at this)
          clear HN hrd
          have hbf : Below w.heap.size w (W1.drewN n) := by have := HW.out; (repeat (first|exact bR _ _|assumption|apply bN|apply bA|apply bD))
          have HB := Lib.hid hbf
          clear hbf
          go_wp2_with (go_at_call 119; refine (rOff_any _ _ _ _).mono ?_; rintro e w' ⟨rfl, rfl⟩)
          all_goals
            go_ret
            refine ⟨ret_int (gateErr_of H1.out H2.out HA.out HD.out ?_), HB.out⟩
            have hk := arity_kind H1.out
            (try simp only [bne_iff_ne, bne_eq_false_iff_eq, ne_eq] at *)
            (repeat' split) <;> omega
set_option maxRecDepth 100000 in
set_option maxHeartbeats 4000000 in
theorem rCheck4_any (A : Option Addr) (k : Nat) (c : C) (w : World) (h : RdG w A c.gates) (hk : c.gates.length ≤ k) :
    Calls Tryz.prog 70 #[.agg #[.int .i64 c.wires, .int .i64 c.bits, .slice A c.gates.length k]] w fun e w' => e = .returned (.int .i64 (check c)) ∧ Below w.heap.size w w' := by
  have hl := h.1
  have HH := Lib.hid h
  clear h
  go_enter Tryz.func70, Tryz.ntmps70
  by_cases h1 : c.wires < 1 ∨ 12 < c.wires
  case pos =>
    have t1 : decide (c.wires < 1 ∨ 12 < c.wires) = true := by simpa using h1
    have H1 := Lib.hid h1
    clear h1
    go_wp2_with (go_at_call 119; refine (rOff_any _ _ _ _).mono ?_; rintro e w' ⟨rfl, rfl⟩)
    all_goals
      go_ret
      exact ⟨ret_int (by unfold check; rw [if_pos (by have := H1.out; omega)]), by (repeat (first|exact bR _ _|assumption|apply bN|apply bA|apply bD))⟩
  by_cases h2 : c.bits < 0 ∨ 8 < c.bits
  case pos =>
    have t1 : decide (c.wires < 1 ∨ 12 < c.wires) = false := by simpa using h1
    have t2 : decide (c.bits < 0 ∨ 8 < c.bits) = true := by simpa using h2
    have H1 := Lib.hid h1
    have H2 := Lib.hid h2
    clear h1 h2
    go_wp2_with (go_at_call 119; refine (rOff_any _ _ _ _).mono ?_; rintro e w' ⟨rfl, rfl⟩)
    all_goals
      go_ret
      exact ⟨ret_int (by unfold check; rw [if_pos (by have := H2.out; omega)]), by (repeat (first|exact bR _ _|assumption|apply bN|apply bA|apply bD))⟩
  have t1 : decide (c.wires < 1 ∨ 12 < c.wires) = false := by simpa using h1
  have t2 : decide (c.bits < 0 ∨ 8 < c.bits) = false := by simpa using h2
  have H1 := Lib.hid h1
  have H2 := Lib.hid h2
  clear h1 h2
  by_cases h3 : 120 < c.gates.length
  case pos =>
    have H3 := Lib.hid h3
    have h3' : (120 : Int) < (c.gates.length : Int) := by omega
    clear h3
    go_wp2_with (go_at_call 119; refine (rOff_any _ _ _ _).mono ?_; rintro e w' ⟨rfl, rfl⟩)
    all_goals
      go_ret
      exact ⟨ret_int (by unfold check; rw [if_neg (by have := H1.out; have := H2.out; omega), if_pos H3.out]), by (repeat (first|exact bR _ _|assumption|apply bN|apply bA|apply bD))⟩
  have h3' : ¬ (120 : Int) < (c.gates.length : Int) := by omega
  have HC := Lib.hid (show check c = checkG c.wires c.bits c.gates by unfold check; rw [if_neg (by have := H1.out; have := H2.out; omega), if_neg h3])
  clear h3
  go_wp2_with (go_at_call 119; refine (rOff_any _ _ _ _).mono ?_; rintro e w' ⟨rfl, rfl⟩)
  obtain ⟨W1, hW1⟩ : ∃ W1, w.alloc (.cells #[.int .i64 c.wires, .int .i64 c.bits, .slice A c.gates.length k] 24) = W1 := ⟨_, rfl⟩
  have hb1 : Below w.heap.size w W1 := by rw [← hW1]; (repeat (first|exact bR _ _|assumption|apply bN|apply bA|apply bD))
  have p0 : W1.heap[w.heap.size]? = some (.cells #[.int .i64 c.wires, .int .i64 c.bits, .slice A c.gates.length k] 24 (0, 0)) := by rw [← hW1]; exact heap_alloc_new _ _
  rw [hW1]
  clear hW1 t1 t2
  go_loopw [3, 4] (fun i _ wr => ∃ j : Nat, j ≤ c.gates.length ∧ i = .int .i64 j ∧ Hid (check c = checkG c.wires c.bits (c.gates.drop j)) ∧ Hid (wr.heap[w.heap.size]? = some (.cells #[.int .i64 c.wires, .int .i64 c.bits, .slice A c.gates.length k] 24 (0, 0))) ∧ Below w.heap.size w wr) (fun i _ _ => c.gates.length - (intOf i).toNat)
  case atStart => exact ⟨0, Nat.zero_le _, rfl, Lib.hid HC.out, Lib.hid p0, hb1⟩
  case round =>
    clear hb1 p0
    obtain ⟨j, hj, rfl, HI, HP, hb⟩ := hrel
    obtain ⟨k0, k1, k2, kf⟩ := cells3 HP.out
    by_cases hlt : j < c.gates.length
    · obtain ⟨b, o, B, d, rfl, g0, g1, g2, g3, hd, hrd⟩ := (HH.out.bG hb).gate j hlt
      have HB := Lib.hid (And.intro hrd hb)
      obtain ⟨g, hg⟩ : ∃ g, c.gates[j] = g := ⟨_, rfl⟩
      have HG := Lib.hid hg
      rw [hg] at g0 g1 g2 g3 hd HB
      clear hrd hb hg
      have hbr0 : Below wr.heap.size wr wr.drew := by (repeat (first|exact bR _ _|assumption|apply bN|apply bA|apply bD))
      obtain ⟨q, hq⟩ : ∃ q, gateErr c.wires c.bits g = q := ⟨_, rfl⟩
      go_wp2
      refine wp_region_sg (by kernel_rfl) [0, 1, 2, 3, 4, 5, 6, 7, 8, 9, 10] (by kernel_rfl) (by kernel_rfl) (by kernel_rfl) ?_
      refine SG.p (v := ?v1_8_0) rfl rfl rfl (fun W => ?h1_8_0) ?r1_8_0
      case h1_8_0 => (first|(go_simp;done)|(go_simp;with_reducible rfl))
      simp only [Act.put, pA, pB, pC]
      refine SG.l (v := ?v1_8_1) rfl rfl rfl ?h1_8_1 ?r1_8_1
      case h1_8_1 => (first|(go_simp;done)|(go_simp;with_reducible rfl))
      simp only [Act.put, pA, pB, pC]
      refine SG.p (v := ?v1_8_2) rfl rfl rfl (fun W => ?h1_8_2) ?r1_8_2
      case h1_8_2 => (first|(go_simp;done)|(go_simp;with_reducible rfl))
      simp only [Act.put, pA, pB, pC]
      refine SG.p (v := ?v1_8_3) rfl rfl rfl (fun W => ?h1_8_3) ?r1_8_3
      case h1_8_3 => (first|(go_simp;done)|(go_simp;with_reducible rfl))
      simp only [Act.put, pA, pB, pC]
      refine SG.l (v := ?v1_8_4) rfl rfl rfl ?h1_8_4 ?r1_8_4
      case h1_8_4 => (first|(go_simp;done)|(go_simp;with_reducible rfl))
      simp only [Act.put, pA, pB, pC]
      refine SG.p (v := ?v1_8_5) rfl rfl rfl (fun W => ?h1_8_5) ?r1_8_5
      case h1_8_5 => (first|(go_simp;done)|(go_simp;with_reducible rfl))
      simp only [Act.put, pA, pB, pC]
      refine SG.l (v := ?v1_8_6) rfl rfl rfl ?h1_8_6 ?r1_8_6
      case h1_8_6 => (first|(go_simp;done)|(go_simp;with_reducible rfl))
      simp only [Act.put, pA, pB, pC]
      refine SG.p (v := ?v1_8_7) rfl rfl rfl (fun W => ?h1_8_7) ?r1_8_7
      case h1_8_7 => (first|(go_simp;done)|(go_simp;with_reducible rfl))
      simp only [Act.put, pA, pB, pC]
      refine SG.l (v := ?v1_8_8) rfl rfl rfl ?h1_8_8 ?r1_8_8
      case h1_8_8 => (first|(go_simp;done)|(go_simp;with_reducible rfl))
      simp only [Act.put, pA, pB, pC]
      refine SG.c rfl rfl rfl (by first|(go_simp;done)|(go_simp;with_reducible rfl)|(go_simp;exact ⟨⟨rfl, rfl⟩, rfl⟩)) ?_
      refine (rCheckGate_any B d c.wires c.bits g _ (HB.out.1.bI (by (repeat (first|exact bR _ _|assumption|apply bN|apply bA|apply bD)))) hd (by have := H1.out; omega) (by have := H2.out; omega)).mono ?_
      rintro e w2 ⟨rfl, hb2⟩
      rw [hq]
      have hbr : Below wr.heap.size wr w2 := hbr0.trans hb2
      replace k0 := kc hbr k0
      replace k1 := kc hbr k1
      replace k2 := kc hbr k2
      replace g0 := kc hbr g0
      replace g1 := kc hbr g1
      replace g2 := kc hbr g2
      replace g3 := kc hbr g3
      have HB2 := Lib.hid (And.intro (HB.out.2.trans (hbr.mono HB.out.2.size)) (blkF hbr HP.out))
      clear hb2 hbr hbr0
      refine ⟨_, rfl, ?_, ?_⟩
      · exact ⟨(nw (by kernel_rfl)), (nw (by kernel_rfl)), (nw (by kernel_rfl)), (fun _ => ⟨_, drop_at rfl, by (first|(go_simp;done)|(go_simp;with_reducible rfl))⟩), trivial⟩
      simp only [Act.put, pA, pB, pC]
      refine SG.p (v := ?v1_8_10) rfl rfl rfl (fun W => ?h1_8_10) ?r1_8_10
      case h1_8_10 => (first|(go_simp;done)|(go_simp;with_reducible rfl))
      simp only [Act.put, pA, pB, pC]
      simp only [SG]
      by_cases h0 : q = 0
      · subst h0
        have HQ := Lib.hid hq
        clear hq
        go_wp2
        go_roundw
        case rel => exact ⟨j + 1, by omega, by go_num, Lib.hid (by rw [HI.out, drop_cons _ j hlt, checkG, HG.out, HQ.out, if_pos rfl]), Lib.hid HB2.out.2, HB2.out.1⟩
        case measure => simp [intOf]; omega
      · have hne : (q != 0) = true := by simpa using h0
        have HQ := Lib.hid (And.intro hq h0)
        clear hq h0
        go_wp2
        go_ret
        exact ⟨ret_int (by rw [HI.out, drop_cons _ j hlt, checkG, HG.out, HQ.out.1, if_neg HQ.out.2]), HB2.out.1⟩
    · go_wp2
      go_ret
      exact ⟨ret_int (by rw [HI.out, drop_end _ _ (by omega)]; rfl), hb⟩
section
variable {P : Program} {ops : Array Oper} {rest : List Oper} {o : Oper} {a : Act} {Q : Exit → Act → World → Prop} {F : Fence} {n : Nat}
theorem wpIn_app {α : Type} {E : World → α → List Value → Prop} {W : World} (T sz B : Nat) (hgd : o.guard = none) (s x : Operand) (t : TypeId) (z : Value) (bytes : Nat)
    (ho : o.op = .call { callee := .builtin .append, args := #[s, x], argTypes := #[t, t] })
    (ht : P.underlying t = some (.slice T)) (hinfo : (P.info? T).map (fun i => (i.zero, i.size, i.bytes)) = some (some z, sz, bytes)) (hz : z.cells.size = sz) (hs0 : 0 < sz) (hb0 : 0 < bytes)
    (v : Value) (xs : List α) (p : α) (ys : List Value) (hs : a.eval s = v) (hx : a.eval x = .slice (some ⟨W.heap.size, 0, none⟩) 1 1) (hys : ys.length = sz) (h1 : ∀ u ∈ ys, u.oneCell' = true)
    (hp : E W p ys) (HO : App E T sz B W v xs) (hB : B ≤ W.heap.size) (hl : (xs.length + 1) * bytes ≤ 140737488355328)
    (hE : ∀ w1 n cs, W.ownsRow B T sz v n cs → W.grownBy w1 v.ownBlock → ∀ x cs, E W x cs → E w1 x cs)
    (h : ∀ v1 w1, App E T sz B w1 v1 (xs ++ [p]) → W.grownBy w1 v.ownBlock → wpListIn F n P ops Q rest (a.put o.dst v1) w1) :
    wpListIn F n P ops Q (o :: rest) a (W.alloc (.cells ys.toArray T)) := by
  obtain ⟨i0, hi, hzz⟩ := Option.map_eq_some_iff.1 hinfo
  simp only [Prod.mk.injEq] at hzz
  obtain ⟨hz0, hz1, hz2⟩ := hzz
  obtain ⟨cs, hown, hrep⟩ := HO
  have hlen : xs.length + 1 ≤ 140737488355328 := Nat.le_trans (Nat.le_mul_of_pos_right _ hb0) hl
  refine wpListIn_append_own (W.alloc (.cells ys.toArray T)) hgd s x t ho B T i0 z sz bytes ht hi hz0 hz1 hz2 hz hs0 v xs.length cs hs (hown.alloc _) ⟨W.heap.size, 0, none⟩ 1 1 ys hx (by rw [hys]; simp)
    (fun j u hj => ?_) h1 (by simp only [maxLen]; omega) hl (by simp; omega) ?_
  · have ha : (⟨W.heap.size, 0, none⟩ : Addr).add j = ⟨W.heap.size, j, none⟩ := by unfold Addr.add; split <;> simp_all
    rw [ha, World.cell?_alloc_new]
    simpa using hj
  intro v1 w1 ho1 hg _
  have hgg : W.grownBy w1 v.ownBlock := World.grownBy.trans (b := W.alloc (.cells ys.toArray T)) ⟨rfl, rfl, rfl, by simp, fun i hi _ => Below.heap_alloc _ _ _ hi⟩ hg
  refine h v1 w1 ⟨cs ++ ys, by simpa using ho1, ?_⟩ hgg
  exact (hrep.imp (hE w1 _ _ hown hgg)).snoc (hE w1 _ _ hown hgg _ _ hp) hys
end
theorem owns_cells {w : World} {B : Nat} {e : TypeId} {sz n : Nat} {v : Value} {xs : List Value} (h : w.ownsRow B e sz v n xs) {k : Nat} (hk : v.ownBlock = some k) : ∃ cs, w.heap[k]? = some (.cells cs e (0, 0)) := by
  rcases h.2 with ⟨rfl, _⟩ | ⟨g, cap, cur, rfl, _, hh, _⟩
  · cases hk
  · cases hk; exact ⟨_, hh⟩
theorem owns_turn {w w1 : World} {B : Nat} {e : TypeId} {sz n : Nat} {v : Value} {xs : List Value} {row : Option Nat} (h : w.ownsRow B e sz v n xs) (hT : e ≠ 4) (hg : w.grownBy w1 row) (hr : ∀ r, row = some r → ∃ o : Obj, w.heap[r]? = some o ∧ Turns o) : w1.ownsRow B e sz v n xs := by
  refine h.kept hg ?_
  rcases hk : v.ownBlock with _ | k
  · exact .inl rfl
  · refine .inr fun e' => ?_
    obtain ⟨o, ho, ht⟩ := hr k e'.symm
    obtain ⟨cs, hc⟩ := owns_cells h hk
    rw [hc] at ho
    cases ho
    rcases ht with ht | ⟨b, hb⟩
    · cases ht
    · injection hb with _ h2; exact hT h2
def Bears {α : Type} (E : World → α → List Value → Prop) : Prop := ∀ w w1 row x cs, E w x cs → w.grownBy w1 row → (∀ r, row = some r → ∃ o : Obj, w.heap[r]? = some o ∧ Turns o) → E w1 x cs
theorem EI.bears : Bears EI := fun _ _ _ _ _ h _ _ => h
theorem App.turn {α : Type} {E : World → α → List Value → Prop} {T sz B : Nat} {w w1 : World} {v : Value} {xs : List α} {row : Option Nat} (hE : Bears E) (hT : T ≠ 4) (h : App E T sz B w v xs) (hg : w.grownBy w1 row) (hr : ∀ r, row = some r → ∃ o : Obj, w.heap[r]? = some o ∧ Turns o) : App E T sz B w1 v xs := by
  obtain ⟨cs, ho, hrp⟩ := h
  exact ⟨cs, owns_turn ho hT hg hr, hrp.imp fun x c hx => hE _ _ _ _ _ hx hg hr⟩
theorem EGv.bears (ti B : Nat) (hT : ti ≠ 4) : Bears (EGv ti B) := fun _ _ _ _ _ h hg hr => ⟨h.1, App.turn EI.bears hT h.2 hg hr⟩
theorem abide_block {β : Type} {L b : Nat} (o : β → Obj) (hb : b < L) : Abide L (fun s W => W.heap[b]? = some (o s)) := fun s W W' row hs hg hr =>
  (hg.block b (Array.getElem?_eq_some_iff.1 hs).1 (fun e => by have := (hr b e.symm).1; omega)).trans hs
theorem abide_below {β : Type} {L n : Nat} {w : World} (h : n ≤ L) (hw : n ≤ w.heap.size) : Abide L (fun (_ : β) W => Below n w W) := fun _ W W' row hs hg hr =>
  hs.grown hg (Nat.le_trans hw hs.size) (fun r e => Nat.le_trans h (hr r e).1)
theorem abide_pure {β : Type} {L : Nat} (p : β → Prop) : Abide L (fun s (_ : World) => p s) := fun _ _ _ _ h _ _ => h
theorem keepsFrom_of {L : Nat} {W W' : World} {row : Option Nat} (hg : W.grownBy W' row) (hr : ∀ j, row = some j → ∃ cs T, W.heap[j]? = some (.cells cs T (0, 0))) : KeepsFrom L W W' :=
  (KeepsOthers.of_grownBy hg fun j o hj ho => by obtain ⟨cs, T, hc⟩ := hr j hj; rw [hc] at ho; cases ho; rfl).from L
theorem app_cellsAt {α : Type} {E : World → α → List Value → Prop} {T sz B : Nat} {w : World} {v : Value} {xs : List α} (h : App E T sz B w v xs) {k : Nat} (hk : v.ownBlock = some k) : (∃ cs, w.heap[k]? = some (.cells cs T (0, 0))) ∧ B ≤ k := by
  obtain ⟨cs, ho, _⟩ := h
  exact ⟨owns_cells ho hk, own_base ho k hk⟩
theorem app_boxed {α : Type} {E : World → α → List Value → Prop} {T Tb sz B b n L : Nat} {W w1 : World} {v v1 : Value} {xs ys : List α} (hT : Tb ≠ T) (h1 : W.heap[b]? = some (.cells #[v] Tb (0, 0))) (h2 : App E T sz B W v xs) (hg : W.grownBy w1 v.ownBlock) (h3 : App E T sz B w1 v1 ys) (hE : ∀ x cs, E w1 x cs → E (w1.setCell ⟨b, 0, none⟩ v1) x cs) (hn : n ≤ b) (hnB : n ≤ B) :
    w1.heap[b]? = some (.cells #[v] Tb (0, 0)) ∧ (w1.setCell ⟨b, 0, none⟩ v1).heap[b]? = some (.cells #[v1] Tb (0, 0)) ∧ App E T sz B (w1.setCell ⟨b, 0, none⟩ v1) v1 ys ∧ Below n W (w1.setCell ⟨b, 0, none⟩ v1) ∧ KeepsFrom L W (w1.setCell ⟨b, 0, none⟩ v1) := by
  have hbl := (Array.getElem?_eq_some_iff.1 h1).1
  have e1 : w1.heap[b]? = some (.cells #[v] Tb (0, 0)) := (hg.block b hbl (fun e => by
    obtain ⟨⟨cs, hc⟩, _⟩ := app_cellsAt h2 e.symm
    rw [h1] at hc
    injection hc with hc
    injection hc with _ h
    exact hT h)).trans h1
  refine ⟨e1, Boxed.set v1 e1, ?_, ?_, ?_⟩
  · obtain ⟨cs, ho, hr⟩ := h3
    refine ⟨cs, ownsRow_setCell_other ho (fun e => ?_) _, hr.imp hE⟩
    obtain ⟨cs', hc⟩ := owns_cells ho e
    dsimp only at hc
    rw [e1] at hc
    injection hc with hc
    injection hc with _ h
    exact hT h
  · refine Below.setCell ((Below.refl n W).grown hg (by omega) (fun k e => ?_)) (p := ⟨b, 0, none⟩) hn _
    have := (app_cellsAt h2 e).2
    omega
  · exact (keepsFrom_of hg (fun j e => by obtain ⟨⟨cs, hc⟩, _⟩ := app_cellsAt h2 e; exact ⟨cs, T, hc⟩)).trans ((KeepsOthers.setCell _ _ _).from _)
def Marks (w : World) : List Deferred → Prop
  | [] => True
  | d :: ds => (∃ D, d = { target := .collected D, args := #[] } ∧ w.heap[D]? = some (.deferred (some [])) ∧ ∀ d' ∈ ds, d'.target ≠ .collected D) ∧ Marks w ds
theorem Marks.mem {w : World} : ∀ {ds : List Deferred}, Marks w ds → ∀ d ∈ ds, ∃ D, d = { target := .collected D, args := #[] } ∧ w.heap[D]? = some (.deferred (some []))
  | _ :: _, ⟨⟨D, h1, h2, _⟩, h⟩, d, hd => by
    rcases List.mem_cons.1 hd with rfl | hd
    · exact ⟨D, h1, h2⟩
    · exact h.mem d hd
theorem Marks.keep {w w' : World} : ∀ {ds : List Deferred}, Marks w ds → (∀ D, (∃ d ∈ ds, d.target = .collected D) → w.heap[D]? = some (.deferred (some [])) → w'.heap[D]? = some (.deferred (some []))) → Marks w' ds
  | [], _, _ => trivial
  | d :: ds, ⟨⟨D, h1, h2, h3⟩, h⟩, hk => ⟨⟨D, h1, hk D ⟨d, List.mem_cons_self, by rw [h1]⟩ h2, h3⟩, h.keep fun D' ⟨d', hd', e⟩ => hk D' ⟨d', List.mem_cons_of_mem _ hd', e⟩⟩
theorem leaves_marks {P : Program} {fn : Func} {tmps : Array Value} {R : Ending → World → Prop} {L : Nat} {I : World → Prop} (hI : Abide L (fun (_ : Unit) W => I W)) (hR : ∀ w', I w' → ∃ v, (results fn tmps).run P w' = .ok v w' ∧ R (.returned v) w') :
    ∀ (ds : List Deferred) (w : World), Marks w ds → (∀ d ∈ ds, ∀ D, d.target = .collected D → L ≤ D) → I w → LeavesInM Fence.wide 0 P fn tmps R ds .returning w
  | [], w, _, _, h => hR w h
  | d :: ds, w, ⟨⟨D, h1, h2, h3⟩, hm⟩, hL, h => by
    subst h1
    refine ⟨by simp, .inl ⟨D, _, rfl, run_takeDeferred h2, ?_⟩⟩
    refine leaves_marks hI hR ds _ (hm.keep fun D' ⟨d', hd', e⟩ hD' => (World.putObj_heap_other (fun e' => h3 d' hd' (by rw [e, e']))).trans hD') (fun d' hd' => hL d' (List.mem_cons_of_mem _ hd')) ?_
    exact hI.putObj (s := ()) _ h (hL _ List.mem_cons_self D rfl) h2 rfl
def greatC (c : C) : Bool := decide (130 < c.gates.length) || c.gates.any fun g => decide (6 < g.wires.length)
def greatM (l : List M) : Bool := decide (420 < l.length) || l.any fun s => decide (6 < s.wires.length)
theorem Great1_any (gs : List G) (w : World) : PredG w 55 #[] gs (fun g => decide (6 < g.wires.length)) := by
  intro g A c w1 hg hr hc hB
  obtain ⟨n, hn⟩ : ∃ n, g.wires.length = n := ⟨_, rfl⟩
  rw [hn]
  go_enter Tryz.func55, Tryz.ntmps55
  go_wp2
  go_ret
  exact ⟨ret_bool (by rw [Bool.eq_iff_iff, decide_eq_true_eq, decide_eq_true_eq]; omega), by (repeat (first|exact bR _ _|assumption|apply bN|apply bA|apply bD))⟩
theorem great1_any (gs : List M) (w : World) : PredM w 56 #[] gs (fun s => decide (6 < s.wires.length)) := by
  intro g A c w1 hg hr hc hB
  obtain ⟨n, hn⟩ : ∃ n, g.wires.length = n := ⟨_, rfl⟩
  rw [hn]
  go_enter Tryz.func56, Tryz.ntmps56
  go_wp2
  go_ret
  exact ⟨ret_bool (by rw [Bool.eq_iff_iff, decide_eq_true_eq, decide_eq_true_eq]; omega), by (repeat (first|exact bR _ _|assumption|apply bN|apply bA|apply bD))⟩
theorem Great_any (A : Option Addr) (k : Nat) (c : C) (w : World) (h : RdG w A c.gates) :
    Calls Tryz.prog 13 #[.agg #[.int .i64 c.wires, .int .i64 c.bits, .slice A c.gates.length k]] w fun e w' => e = .returned (.bool (greatC c)) ∧ Below w.heap.size w w' := by
  have HR := Lib.hid h
  clear h
  by_cases h1 : 130 < c.gates.length
  · have h1' : (130 : Int) < (c.gates.length : Int) := by omega
    go_enter Tryz.func13, Tryz.ntmps13
    go_wp2
    go_ret
    exact ⟨ret_bool (by unfold greatC; rw [decide_eq_true h1, Bool.true_or]), by (repeat (first|exact bR _ _|assumption|apply bN|apply bA|apply bD))⟩
  · have h1' : ¬ (130 : Int) < (c.gates.length : Int) := by omega
    go_enter Tryz.func13, Tryz.ntmps13
    go_wp2_with fail
    refine (ContainsFuncG_any A k c.gates 55 #[] _ _ (HR.out.bG (by (repeat (first|exact bR _ _|assumption|apply bN|apply bA|apply bD)))) (Great1_any _ _) (enters_of Tryz.func55 (by kernel_rfl) rfl)).mono ?_
    rintro e w2 ⟨rfl, hb⟩
    have HB := Lib.hid (show Below w.heap.size w w2 from Below.trans (b := _) (by (repeat (first|exact bR _ _|assumption|apply bN|apply bA|apply bD))) (hb.mono (by simp)))
    clear hb
    go_wp2
    go_ret
    exact ⟨ret_bool (by unfold greatC; rw [decide_eq_false h1, Bool.false_or]), HB.out⟩
theorem great_any (A : Option Addr) (n k : Nat) (l : List M) (w : World) (h : RdM w A l) (hn : l.length = n) :
    Calls Tryz.prog 14 #[.slice A n k] w fun e w' => e = .returned (.bool (greatM l)) ∧ Below w.heap.size w w' := by
  subst hn
  have HR := Lib.hid h
  clear h
  by_cases h1 : 420 < l.length
  · have h1' : (420 : Int) < (l.length : Int) := by omega
    go_enter Tryz.func14, Tryz.ntmps14
    go_wp2
    go_ret
    exact ⟨ret_bool (by unfold greatM; rw [decide_eq_true h1, Bool.true_or]), by (repeat (first|exact bR _ _|assumption|apply bN|apply bA|apply bD))⟩
  · have h1' : ¬ (420 : Int) < (l.length : Int) := by omega
    go_enter Tryz.func14, Tryz.ntmps14
    go_wp2_with fail
    refine (ContainsFuncM_any A k l 56 #[] _ _ (HR.out.bM (by (repeat (first|exact bR _ _|assumption|apply bN|apply bA|apply bD)))) (great1_any _ _) (enters_of Tryz.func56 (by kernel_rfl) rfl)).mono ?_
    rintro e w2 ⟨rfl, hb⟩
    go_wp2
    go_ret
    exact ⟨ret_bool (by unfold greatM; rw [decide_eq_false h1, Bool.false_or]), hb⟩
end Go.Proofs.YtfommmijojfdbaaGreatDoor
