/- Part 25 of the proof that 'spoondriftlaw19.RulesApplies' holds for every input; it has no condition beyond the statement's own. -/
import Derived.Test.YtfommmijojfdbaaGreatDoorZ21
set_option linter.all false
namespace Go.Proofs.YtfommmijojfdbaaGreatDoor
open Go.RowKit
def cxG : G := ⟨9, [0, 1], 0, 0⟩
def czG : G := ⟨10, [0, 1], 0, 0⟩
def swG : G := ⟨11, [0, 1], 0, 0⟩
def ccG : G := ⟨12, [0, 1, 2], 0, 0⟩
inductive RK | ints (l : List Int) | gate (g : G) | gates (l : List G) | rule (m : Int) (l r : List G) (ph : Int) | any
def RK.say (n : Nat) : RK → Value → World → Prop
  | .ints l => RInts n l
  | .gate g => RGate n g
  | .gates l => RGates n l
  | .rule m l r ph => RRule n m l r ph
  | .any => fun _ _ => True
theorem RK.below {n : Nat} {k : RK} {v : Value} {w w' : World} (h : RK.say n k v w) (hb : Below w.heap.size w w') : RK.say n k v w' := by
  cases k with
  | ints l => exact RInts.below h hb
  | gate g => exact RGate.below h hb
  | gates l => exact RGates.below h hb
  | rule m l r ph => exact RRule.below h hb
  | any => trivial
def mrok (ops : Array Oper) (n i k t : Nat) : Bool := match ops[k]? with
  | some ok => (ok.dst == some t) && waits ops i k && k != n
  | none => false
theorem look_val {ops : Array Oper} {R : Nat → Value → World → Prop} {n i : Nat} {a a' : Act} {w : World} (h : MrLook ops R n a a' w i) (k t : Nat) (hk : mrok ops n i k t = true) (ht : t < a.tmps.size) : ∃ v, a'.eval (.tmp t) = v ∧ R k v w := by
  unfold mrok at hk
  cases ho : ops[k]? with
  | none => rw [ho] at hk; cases hk
  | some ok =>
    rw [ho] at hk
    simp only [Bool.and_eq_true, beq_iff_eq, bne_iff_ne] at hk
    obtain ⟨v, hv, hs⟩ := h.has k ok ho hk.1.2 hk.2
    have := hs t hk.1.1 ht
    exact ⟨v, by simp [Act.eval, Array.getD_eq_getD_getElem?, this], hv⟩
def nodst (ops : Array Oper) (n t : Nat) : Bool := (List.range ops.size).all fun k => k == n || ((ops[k]?).map fun o => o.dst != some t).getD true
theorem look_old {ops : Array Oper} {R : Nat → Value → World → Prop} {n i : Nat} {a a' : Act} {w : World} (h : MrLook ops R n a a' w i) (t : Nat) (ht : nodst ops n t = true) : a'.eval (.tmp t) = a.eval (.tmp t) := by
  have : a'.tmps[t]? = a.tmps[t]? := h.same t fun k ok hk hkn => by
    have h1 := List.all_eq_true.1 ht k (List.mem_range.2 (Array.getElem?_eq_some_iff.1 hk).1)
    rw [hk] at h1
    simp only [Bool.or_eq_true, beq_iff_eq, Option.map_some, Option.getD_some, bne_iff_ne] at h1
    exact h1.resolve_left hkn
  simp [Act.eval, Array.getD_eq_getD_getElem?, this]
def WG (w : World) (b : Nat) (W : World) : Prop := w.heap.size + 1 ≤ W.heap.size ∧ BoxG (w.heap.size + 1) W b cxG ∧ BoxG (w.heap.size + 1) W (b + 1) czG ∧ BoxG (w.heap.size + 1) W (b + 1 + 1) swG ∧ BoxG (w.heap.size + 1) W (b + 1 + 1 + 1) ccG ∧
  W.heap[w.heap.size]? = some (.cells #[.int .i64 0, .slice none 0 0, .slice none 0 0, .int .i64 0] 107 (0, 0)) ∧ Below w.heap.size w W
theorem WG.below {w : World} {b : Nat} {W W' : World} (h : WG w b W) (hb : Below W.heap.size W W') : WG w b W' :=
  ⟨Nat.le_trans h.1 hb.size, h.2.1.below hb, h.2.2.1.below hb, h.2.2.2.1.below hb, h.2.2.2.2.1.below hb, blk2 hb h.2.2.2.2.2.1, h.2.2.2.2.2.2.trans (hb.mono h.2.2.2.2.2.2.size)⟩
theorem mrS {n b : Nat} {W : World} {a : Act} {o : Oper} {m ph : Int} {l r : List G} {next : Value → World → Prop} (t : Tmp) (ho : o.op = .store 107 (.tmp 2) (.tmp t)) (e1 : a.eval (.tmp 2) = .pointer (some ⟨b, 0, none⟩)) {v : Value} (e0 : a.eval (.tmp t) = v) (hv : RRule n m l r ph v W)
    (hb : W.heap[b]? = some (.cells #[.int .i64 0, .slice none 0 0, .slice none 0 0, .int .i64 0] 107 (0, 0)))
    (h : ∀ A1 c1 A2 c2, l.length ≤ c1 → r.length ≤ c2 → RdF n W A1 l → RdF n W A2 r → next undef ((((W.setCell ⟨b, 0, none⟩ (.int .i64 m)).setCell ⟨b, 1, none⟩ (.slice A1 l.length c1)).setCell ⟨b, 2, none⟩ (.slice A2 r.length c2)).setCell ⟨b, 3, none⟩ (.int .i64 ph))) :
    effUpon Tryz.prog next ((execOp a.eval o).run Tryz.prog W) := by
  obtain ⟨A1, c1, A2, c2, rfl, k1, k2, r1, r2⟩ := hv
  obtain ⟨s0, s1, s2, s3, sf⟩ := cells4 hb
  have hrun : (execOp a.eval o).run Tryz.prog W = .ok .skip ((((W.setCell ⟨b, 0, none⟩ (.int .i64 m)).setCell ⟨b, 1, none⟩ (.slice A1 l.length c1)).setCell ⟨b, 2, none⟩ (.slice A2 r.length c2)).setCell ⟨b, 3, none⟩ (.int .i64 ph)) := by
    unfold execOp
    rw [ho]
    simp only [e0, e1]
    go_simp
  rw [hrun]
  exact h A1 c1 A2 c2 k1 k2 r1 r2
theorem z24t0 {p : Prop} (h : p := by
  refine bodyPost_ret (results_cell_row rfl _ _ w.heap.size 107 _ _ _ (HK.out.2.2.2.2.2) (set4 (HK.out.1.2.2.2.2.2).1) Tryz.underlying107 rfl (by kernel_rfl)) hdf ?_
  refine ⟨A1, c1, A2, c2, by rw [hl, hr, hw, hp]; rfl, ?_, ?_, ?_, ?_, ((((HK.out.1.2.2.2.2.2).2.setCell (Nat.le_refl _) _).setCell (Nat.le_refl _) _).setCell (Nat.le_refl _) _).setCell (Nat.le_refl _) _⟩
  · rw [hl]; exact (HK.out.2.2.2.1).set4 (Nat.le_refl _) (by omega) _ _ _ _
  · rw [hr]; exact (HK.out.2.2.2.2.1).set4 (Nat.le_refl _) (by omega) _ _ _ _
  · rw [hl]; exact HK.out.2.1
  · rw [hr]; exact HK.out.2.2.1) : p := h
set_option maxRecDepth 100000 in
set_option maxHeartbeats 8000000 in
theorem rWide_any (i : Nat) (hi : i = 8 ∨ i = 9 ∨ i = 10 ∨ i = 11 ∨ i = 34 ∨ i = 35 ∨ i = 41 ∨ i = 33 ∨ i = 36 ∨ i = 37 ∨ i = 38 ∨ i = 39 ∨ i = 40 ∨ i = 42) (w : World) : Calls Tryz.prog 125 #[.int .i64 i] w (RetRule (ruleW i) (ruleL i) (ruleR i) (ruleP i) w) := by
  go_enter Tryz.func125, Tryz.ntmps125
  go_upto_region 1 with fail
  obtain ⟨w1, hw1⟩ : ∃ w1, w.alloc (.cells #[.int .i64 0, .slice none 0 0, .slice none 0 0, .int .i64 0] 107) = w1 := ⟨_, rfl⟩
  have hzw1 : w.heap.size + 1 ≤ w1.heap.size := by rw [← hw1]; simp
  have HB1 := Lib.hid (show w1.heap[w.heap.size]? = some (.cells #[.int .i64 0, .slice none 0 0, .slice none 0 0, .int .i64 0] 107 (0, 0)) ∧ Below w.heap.size w w1 from by rw [← hw1]; exact ⟨blk_alloc _ _ _ rfl, by (repeat (first|exact bR _ _|assumption|apply bN|apply bA|apply bD))⟩)
  rw [hw1]
  clear hw1
  go_wp2_with fail
  refine (rG_any 9 _ _ _ _).mono ?_
  rintro e w2 ⟨rfl, hbw2⟩
  have hrw2 := (RdIF.lit (n := w.heap.size + 1) (w := w1) hzw1 [0, 1] (by decide)).below hbw2
  have hbbw2 : Below w1.heap.size w1 w2 := (below_alloc (Below.refl _ _) _).trans (hbw2.mono (by simp))
  have hzw2 := Nat.le_trans hzw1 hbbw2.size
  go_wp2_with fail
  refine (rG_any 10 _ _ _ _).mono ?_
  rintro e w3 ⟨rfl, hbw3⟩
  have hrw3 := (RdIF.lit (n := w.heap.size + 1) (w := w2) hzw2 [0, 1] (by decide)).below hbw3
  have hbbw3 : Below w2.heap.size w2 w3 := (below_alloc (Below.refl _ _) _).trans (hbw3.mono (by simp))
  have hzw3 := Nat.le_trans hzw2 hbbw3.size
  go_wp2_with fail
  refine (rG_any 11 _ _ _ _).mono ?_
  rintro e w4 ⟨rfl, hbw4⟩
  have hrw4 := (RdIF.lit (n := w.heap.size + 1) (w := w3) hzw3 [0, 1] (by decide)).below hbw4
  have hbbw4 : Below w3.heap.size w3 w4 := (below_alloc (Below.refl _ _) _).trans (hbw4.mono (by simp))
  have hzw4 := Nat.le_trans hzw3 hbbw4.size
  go_wp2_with fail
  refine (rG_any 12 _ _ _ _).mono ?_
  rintro e w5 ⟨rfl, hbw5⟩
  have hrw5 := (RdIF.lit (n := w.heap.size + 1) (w := w4) hzw4 [0, 1, 2] (by decide)).below hbw5
  have hbbw5 : Below w4.heap.size w4 w5 := (below_alloc (Below.refl _ _) _).trans (hbw5.mono (by simp))
  have hzw5 := Nat.le_trans hzw4 hbbw5.size
  go_upto_region 2 with fail
  obtain ⟨W6, hW6⟩ : ∃ W6, (((w5.alloc (.cells #[.int .i64 9, .slice (some ⟨w1.heap.size, 0, none⟩) 2 2, .int .i64 0, .int .i64 0] 55)).alloc (.cells #[.int .i64 10, .slice (some ⟨w2.heap.size, 0, none⟩) 2 2, .int .i64 0, .int .i64 0] 55)).alloc (.cells #[.int .i64 11, .slice (some ⟨w3.heap.size, 0, none⟩) 2 2, .int .i64 0, .int .i64 0] 55)).alloc (.cells #[.int .i64 12, .slice (some ⟨w4.heap.size, 0, none⟩) 3 3, .int .i64 0, .int .i64 0] 55) = W6 := ⟨_, rfl⟩
  have h56 : Below w5.heap.size w5 W6 := by rw [← hW6]; (repeat (first|exact bR _ _|assumption|apply bN|apply bA|apply bD))
  have h46 := hbbw5.trans (h56.mono hbbw5.size)
  have h36 := hbbw4.trans (h46.mono hbbw4.size)
  have h26 := hbbw3.trans (h36.mono hbbw3.size)
  have h16 := hbbw2.trans (h26.mono hbbw2.size)
  have HGW := Lib.hid (show WG w w5.heap.size W6 from ⟨by have := h16.size; omega, ⟨_, _, by rw [← hW6]; exact alloc_old (alloc_old (alloc_old (blk_alloc _ _ _ rfl))), Nat.le_refl _, hrw2.below h26⟩, ⟨_, _, by rw [← hW6]; exact alloc_old (alloc_old (blk_alloc _ _ _ (by simp))), Nat.le_refl _, hrw3.below h36⟩,
    ⟨_, _, by rw [← hW6]; exact alloc_old (blk_alloc _ _ _ (by simp)), Nat.le_refl _, hrw4.below h46⟩, ⟨_, _, by rw [← hW6]; exact blk_alloc _ _ _ (by simp), Nat.le_refl _, hrw5.below h56⟩, blk2 h16 HB1.out.1, HB1.out.2.trans (h16.mono HB1.out.2.size)⟩)
  rw [hW6]
  clear hW6 h56 h46 h36 h26 h16 HB1 hrw2 hrw3 hrw4 hrw5 hbbw2 hbbw3 hbbw4 hbbw5 hzw1 hzw2 hzw3 hzw4 hzw5 hbw2 hbw3 hbw4 hbw5
  rcases hi with rfl | rfl | rfl | rfl | rfl | rfl | rfl | rfl | rfl | rfl | rfl | rfl | rfl | rfl
  · skip -- rule 8
    obtain ⟨A, c, q3, hc3, hf3⟩ := HGW.out.2.1
    obtain ⟨s0, s1, s2, s3, sf⟩ := cells4 q3
    have HQ := Lib.hid (And.intro q3 (And.intro hc3 hf3))
    clear q3 hc3 hf3
    go_wp2_with fail
    refine (rOf_any _ _).mono ?_
    rintro e w7 ⟨rfl, rfl⟩
    have hs1 : Reps (EGf (w.heap.size + 1) W6) 4 [cxG, cxG] [.int .i64 cxG.kind, .slice A cxG.wires.length c, .int .i64 cxG.bit, .int .i64 cxG.cif, .int .i64 cxG.kind, .slice A cxG.wires.length c, .int .i64 cxG.bit, .int .i64 cxG.cif] := (((Reps.nil _ _).snoc (show EGf _ W6 cxG [.int .i64 cxG.kind, .slice A cxG.wires.length c, .int .i64 cxG.bit, .int .i64 cxG.cif] from ⟨A, c, rfl, HQ.out.2.1, HQ.out.2.2⟩) rfl).snoc (show EGf _ W6 cxG [.int .i64 cxG.kind, .slice A cxG.wires.length c, .int .i64 cxG.bit, .int .i64 cxG.cif] from ⟨A, c, rfl, HQ.out.2.1, HQ.out.2.2⟩) rfl)
    have hr1 := RdF.lit (w := W6) HGW.out.1 (by decide) hs1
    have HR := Lib.hid (And.intro hr1 (HGW.out.below (below_alloc (Below.refl _ _) (.cells #[.int .i64 cxG.kind, .slice A cxG.wires.length c, .int .i64 cxG.bit, .int .i64 cxG.cif, .int .i64 cxG.kind, .slice A cxG.wires.length c, .int .i64 cxG.bit, .int .i64 cxG.cif] 55))))
    clear hr1 hs1
    obtain ⟨f0, f1, f2, f3, ff⟩ := cells4 HR.out.2.2.2.2.2.2.1
    go_wp2
    obtain ⟨A1, hA1⟩ : ∃ A1 : Option Addr, A1 = some ⟨W6.heap.size, 0, none⟩ := ⟨_, rfl⟩
    obtain ⟨c1, hc1⟩ : ∃ c1 : Nat, c1 = 2 := ⟨_, rfl⟩
    obtain ⟨A2, hA2⟩ : ∃ A2 : Option Addr, A2 = none := ⟨_, rfl⟩
    obtain ⟨c2, hc2⟩ : ∃ c2 : Nat, c2 = 0 := ⟨_, rfl⟩
    have hl : ruleL 8 = [cxG, cxG] := by decide
    have hr : ruleR 8 = [] := by decide
    have hw : ruleW 8 = 2 := by decide
    have hp : ruleP 8 = 0 := by decide
    refine bodyPost_ret (results_cell_row rfl _ _ w.heap.size 107 _ _ _ (rfl) (set4 (HR.out.2.2.2.2.2.2).1) Tryz.underlying107 rfl (by kernel_rfl)) rfl ?_
    refine ⟨A1, c1, A2, c2, by rw [hl, hr, hw, hp, hA1, hc1, hA2, hc2]; rfl, ?_, ?_, ?_, ?_, ((((HR.out.2.2.2.2.2.2).2.setCell (Nat.le_refl _) _).setCell (Nat.le_refl _) _).setCell (Nat.le_refl _) _).setCell (Nat.le_refl _) _⟩
    · rw [hl]; exact ((show RdF (w.heap.size + 1) _ A1 [cxG, cxG] by subst hA1; exact HR.out.1)).set4 (Nat.le_refl _) (by omega) _ _ _ _
    · rw [hr]; exact ((show RdF (w.heap.size + 1) _ A2 [] from fun _ _ => Rd.nil _ _ _ _)).set4 (Nat.le_refl _) (by omega) _ _ _ _
    · rw [hl]; exact by subst hc1; decide
    · rw [hr]; exact Nat.zero_le _
  · skip -- rule 9
    obtain ⟨A, c, q3, hc3, hf3⟩ := HGW.out.2.2.1
    obtain ⟨s0, s1, s2, s3, sf⟩ := cells4 q3
    have HQ := Lib.hid (And.intro q3 (And.intro hc3 hf3))
    clear q3 hc3 hf3
    go_wp2_with fail
    refine (rOf_any _ _).mono ?_
    rintro e w7 ⟨rfl, rfl⟩
    have hs1 : Reps (EGf (w.heap.size + 1) W6) 4 [czG, czG] [.int .i64 czG.kind, .slice A czG.wires.length c, .int .i64 czG.bit, .int .i64 czG.cif, .int .i64 czG.kind, .slice A czG.wires.length c, .int .i64 czG.bit, .int .i64 czG.cif] := (((Reps.nil _ _).snoc (show EGf _ W6 czG [.int .i64 czG.kind, .slice A czG.wires.length c, .int .i64 czG.bit, .int .i64 czG.cif] from ⟨A, c, rfl, HQ.out.2.1, HQ.out.2.2⟩) rfl).snoc (show EGf _ W6 czG [.int .i64 czG.kind, .slice A czG.wires.length c, .int .i64 czG.bit, .int .i64 czG.cif] from ⟨A, c, rfl, HQ.out.2.1, HQ.out.2.2⟩) rfl)
    have hr1 := RdF.lit (w := W6) HGW.out.1 (by decide) hs1
    have HR := Lib.hid (And.intro hr1 (HGW.out.below (below_alloc (Below.refl _ _) (.cells #[.int .i64 czG.kind, .slice A czG.wires.length c, .int .i64 czG.bit, .int .i64 czG.cif, .int .i64 czG.kind, .slice A czG.wires.length c, .int .i64 czG.bit, .int .i64 czG.cif] 55))))
    clear hr1 hs1
    obtain ⟨f0, f1, f2, f3, ff⟩ := cells4 HR.out.2.2.2.2.2.2.1
    go_wp2
    obtain ⟨A1, hA1⟩ : ∃ A1 : Option Addr, A1 = some ⟨W6.heap.size, 0, none⟩ := ⟨_, rfl⟩
    obtain ⟨c1, hc1⟩ : ∃ c1 : Nat, c1 = 2 := ⟨_, rfl⟩
    obtain ⟨A2, hA2⟩ : ∃ A2 : Option Addr, A2 = none := ⟨_, rfl⟩
    obtain ⟨c2, hc2⟩ : ∃ c2 : Nat, c2 = 0 := ⟨_, rfl⟩
    have hl : ruleL 9 = [czG, czG] := by decide
    have hr : ruleR 9 = [] := by decide
    have hw : ruleW 9 = 2 := by decide
    have hp : ruleP 9 = 0 := by decide
    refine bodyPost_ret (results_cell_row rfl _ _ w.heap.size 107 _ _ _ (rfl) (set4 (HR.out.2.2.2.2.2.2).1) Tryz.underlying107 rfl (by kernel_rfl)) rfl ?_
    refine ⟨A1, c1, A2, c2, by rw [hl, hr, hw, hp, hA1, hc1, hA2, hc2]; rfl, ?_, ?_, ?_, ?_, ((((HR.out.2.2.2.2.2.2).2.setCell (Nat.le_refl _) _).setCell (Nat.le_refl _) _).setCell (Nat.le_refl _) _).setCell (Nat.le_refl _) _⟩
    · rw [hl]; exact ((show RdF (w.heap.size + 1) _ A1 [czG, czG] by subst hA1; exact HR.out.1)).set4 (Nat.le_refl _) (by omega) _ _ _ _
    · rw [hr]; exact ((show RdF (w.heap.size + 1) _ A2 [] from fun _ _ => Rd.nil _ _ _ _)).set4 (Nat.le_refl _) (by omega) _ _ _ _
    · rw [hl]; exact by subst hc1; decide
    · rw [hr]; exact Nat.zero_le _
  · skip -- rule 10
    obtain ⟨A, c, q3, hc3, hf3⟩ := HGW.out.2.2.2.1
    obtain ⟨s0, s1, s2, s3, sf⟩ := cells4 q3
    have HQ := Lib.hid (And.intro q3 (And.intro hc3 hf3))
    clear q3 hc3 hf3
    go_wp2_with fail
    refine (rOf_any _ _).mono ?_
    rintro e w7 ⟨rfl, rfl⟩
    have hs1 : Reps (EGf (w.heap.size + 1) W6) 4 [swG, swG] [.int .i64 swG.kind, .slice A swG.wires.length c, .int .i64 swG.bit, .int .i64 swG.cif, .int .i64 swG.kind, .slice A swG.wires.length c, .int .i64 swG.bit, .int .i64 swG.cif] := (((Reps.nil _ _).snoc (show EGf _ W6 swG [.int .i64 swG.kind, .slice A swG.wires.length c, .int .i64 swG.bit, .int .i64 swG.cif] from ⟨A, c, rfl, HQ.out.2.1, HQ.out.2.2⟩) rfl).snoc (show EGf _ W6 swG [.int .i64 swG.kind, .slice A swG.wires.length c, .int .i64 swG.bit, .int .i64 swG.cif] from ⟨A, c, rfl, HQ.out.2.1, HQ.out.2.2⟩) rfl)
    have hr1 := RdF.lit (w := W6) HGW.out.1 (by decide) hs1
    have HR := Lib.hid (And.intro hr1 (HGW.out.below (below_alloc (Below.refl _ _) (.cells #[.int .i64 swG.kind, .slice A swG.wires.length c, .int .i64 swG.bit, .int .i64 swG.cif, .int .i64 swG.kind, .slice A swG.wires.length c, .int .i64 swG.bit, .int .i64 swG.cif] 55))))
    clear hr1 hs1
    obtain ⟨f0, f1, f2, f3, ff⟩ := cells4 HR.out.2.2.2.2.2.2.1
    go_wp2
    obtain ⟨A1, hA1⟩ : ∃ A1 : Option Addr, A1 = some ⟨W6.heap.size, 0, none⟩ := ⟨_, rfl⟩
    obtain ⟨c1, hc1⟩ : ∃ c1 : Nat, c1 = 2 := ⟨_, rfl⟩
    obtain ⟨A2, hA2⟩ : ∃ A2 : Option Addr, A2 = none := ⟨_, rfl⟩
    obtain ⟨c2, hc2⟩ : ∃ c2 : Nat, c2 = 0 := ⟨_, rfl⟩
    have hl : ruleL 10 = [swG, swG] := by decide
    have hr : ruleR 10 = [] := by decide
    have hw : ruleW 10 = 2 := by decide
    have hp : ruleP 10 = 0 := by decide
    refine bodyPost_ret (results_cell_row rfl _ _ w.heap.size 107 _ _ _ (rfl) (set4 (HR.out.2.2.2.2.2.2).1) Tryz.underlying107 rfl (by kernel_rfl)) rfl ?_
    refine ⟨A1, c1, A2, c2, by rw [hl, hr, hw, hp, hA1, hc1, hA2, hc2]; rfl, ?_, ?_, ?_, ?_, ((((HR.out.2.2.2.2.2.2).2.setCell (Nat.le_refl _) _).setCell (Nat.le_refl _) _).setCell (Nat.le_refl _) _).setCell (Nat.le_refl _) _⟩
    · rw [hl]; exact ((show RdF (w.heap.size + 1) _ A1 [swG, swG] by subst hA1; exact HR.out.1)).set4 (Nat.le_refl _) (by omega) _ _ _ _
    · rw [hr]; exact ((show RdF (w.heap.size + 1) _ A2 [] from fun _ _ => Rd.nil _ _ _ _)).set4 (Nat.le_refl _) (by omega) _ _ _ _
    · rw [hl]; exact by subst hc1; decide
    · rw [hr]; exact Nat.zero_le _
  · skip -- rule 11
    obtain ⟨A, c, q3, hc3, hf3⟩ := HGW.out.2.2.2.2.1
    obtain ⟨s0, s1, s2, s3, sf⟩ := cells4 q3
    have HQ := Lib.hid (And.intro q3 (And.intro hc3 hf3))
    clear q3 hc3 hf3
    go_wp2_with fail
    refine (rOf_any _ _).mono ?_
    rintro e w7 ⟨rfl, rfl⟩
    have hs1 : Reps (EGf (w.heap.size + 1) W6) 4 [ccG, ccG] [.int .i64 ccG.kind, .slice A ccG.wires.length c, .int .i64 ccG.bit, .int .i64 ccG.cif, .int .i64 ccG.kind, .slice A ccG.wires.length c, .int .i64 ccG.bit, .int .i64 ccG.cif] := (((Reps.nil _ _).snoc (show EGf _ W6 ccG [.int .i64 ccG.kind, .slice A ccG.wires.length c, .int .i64 ccG.bit, .int .i64 ccG.cif] from ⟨A, c, rfl, HQ.out.2.1, HQ.out.2.2⟩) rfl).snoc (show EGf _ W6 ccG [.int .i64 ccG.kind, .slice A ccG.wires.length c, .int .i64 ccG.bit, .int .i64 ccG.cif] from ⟨A, c, rfl, HQ.out.2.1, HQ.out.2.2⟩) rfl)
    have hr1 := RdF.lit (w := W6) HGW.out.1 (by decide) hs1
    have HR := Lib.hid (And.intro hr1 (HGW.out.below (below_alloc (Below.refl _ _) (.cells #[.int .i64 ccG.kind, .slice A ccG.wires.length c, .int .i64 ccG.bit, .int .i64 ccG.cif, .int .i64 ccG.kind, .slice A ccG.wires.length c, .int .i64 ccG.bit, .int .i64 ccG.cif] 55))))
    clear hr1 hs1
    obtain ⟨f0, f1, f2, f3, ff⟩ := cells4 HR.out.2.2.2.2.2.2.1
    go_wp2
    obtain ⟨A1, hA1⟩ : ∃ A1 : Option Addr, A1 = some ⟨W6.heap.size, 0, none⟩ := ⟨_, rfl⟩
    obtain ⟨c1, hc1⟩ : ∃ c1 : Nat, c1 = 2 := ⟨_, rfl⟩
    obtain ⟨A2, hA2⟩ : ∃ A2 : Option Addr, A2 = none := ⟨_, rfl⟩
    obtain ⟨c2, hc2⟩ : ∃ c2 : Nat, c2 = 0 := ⟨_, rfl⟩
    have hl : ruleL 11 = [ccG, ccG] := by decide
    have hr : ruleR 11 = [] := by decide
    have hw : ruleW 11 = 3 := by decide
    have hp : ruleP 11 = 0 := by decide
    refine bodyPost_ret (results_cell_row rfl _ _ w.heap.size 107 _ _ _ (rfl) (set4 (HR.out.2.2.2.2.2.2).1) Tryz.underlying107 rfl (by kernel_rfl)) rfl ?_
    refine ⟨A1, c1, A2, c2, by rw [hl, hr, hw, hp, hA1, hc1, hA2, hc2]; rfl, ?_, ?_, ?_, ?_, ((((HR.out.2.2.2.2.2.2).2.setCell (Nat.le_refl _) _).setCell (Nat.le_refl _) _).setCell (Nat.le_refl _) _).setCell (Nat.le_refl _) _⟩
    · rw [hl]; exact ((show RdF (w.heap.size + 1) _ A1 [ccG, ccG] by subst hA1; exact HR.out.1)).set4 (Nat.le_refl _) (by omega) _ _ _ _
    · rw [hr]; exact ((show RdF (w.heap.size + 1) _ A2 [] from fun _ _ => Rd.nil _ _ _ _)).set4 (Nat.le_refl _) (by omega) _ _ _ _
    · rw [hl]; exact by subst hc1; decide
    · rw [hr]; exact Nat.zero_le _
  · skip -- rule 34
    obtain ⟨A, c, q3, hc3, hf3⟩ := HGW.out.2.2.1
    obtain ⟨s0, s1, s2, s3, sf⟩ := cells4 q3
    have HQ := Lib.hid (And.intro q3 (And.intro hc3 hf3))
    clear q3 hc3 hf3
    go_wp2_with fail
    refine (rOf_any _ _).mono ?_
    rintro e w7 ⟨rfl, rfl⟩
    have hs1 : Reps (EGf (w.heap.size + 1) W6) 4 [czG] [.int .i64 czG.kind, .slice A czG.wires.length c, .int .i64 czG.bit, .int .i64 czG.cif] := ((Reps.nil _ _).snoc (show EGf _ W6 czG [.int .i64 czG.kind, .slice A czG.wires.length c, .int .i64 czG.bit, .int .i64 czG.cif] from ⟨A, c, rfl, HQ.out.2.1, HQ.out.2.2⟩) rfl)
    have hr1 := RdF.lit (w := W6) HGW.out.1 (by decide) hs1
    obtain ⟨W7, hW7⟩ : ∃ W7, (W6.alloc (.cells #[.int .i64 czG.kind, .slice A czG.wires.length c, .int .i64 czG.bit, .int .i64 czG.cif] 55)) = W7 := ⟨_, rfl⟩
    have h67 : Below W6.heap.size W6 W7 := by rw [← hW7]; (repeat (first|exact bR _ _|assumption|apply bN|apply bA|apply bD))
    have HR := Lib.hid (show RdF (w.heap.size + 1) W7 (some ⟨W6.heap.size, 0, none⟩) [czG] ∧ WG w w5.heap.size W7 from ⟨by rw [← hW7]; exact hr1, HGW.out.below h67⟩)
    rw [hW7]
    clear hW7 h67 hr1 hs1
    go_wp2_with fail
    refine (rG_any 10 _ _ _ _).mono ?_
    rintro e w8 ⟨rfl, hb8⟩
    have hr8 := (RdIF.lit (n := w.heap.size + 1) (w := W7) HR.out.2.1 [1, 0] (by decide)).below hb8
    have h78 : Below W7.heap.size W7 w8 := (below_alloc (Below.refl _ _) _).trans (hb8.mono (by simp))
    have HR8 := Lib.hid (And.intro (HR.out.1.below h78) (And.intro (HR.out.2.below h78) hr8))
    clear hb8 hr8 h78
    go_wp2_with fail
    refine (rOf_any _ _).mono ?_
    rintro e w9 ⟨rfl, rfl⟩
    have hs2 : Reps (EGf (w.heap.size + 1) w8) 4 [(⟨10, [1, 0], 0, 0⟩ : G)] [.int .i64 10, .slice (some ⟨W7.heap.size, 0, none⟩) 2 2, .int .i64 0, .int .i64 0] := (Reps.nil _ _).snoc (show EGf _ w8 ⟨10, [1, 0], 0, 0⟩ [.int .i64 10, .slice (some ⟨W7.heap.size, 0, none⟩) 2 2, .int .i64 0, .int .i64 0] from ⟨_, _, rfl, by decide, HR8.out.2.2⟩) rfl
    have hr2 := RdF.lit (w := w8) HR8.out.2.1.1 (by decide) hs2
    have HR9 := Lib.hid (And.intro (HR8.out.1.below (below_alloc (Below.refl _ _) (.cells #[.int .i64 10, .slice (some ⟨W7.heap.size, 0, none⟩) 2 2, .int .i64 0, .int .i64 0] 55))) (And.intro hr2 (HR8.out.2.1.below (below_alloc (Below.refl _ _) (.cells #[.int .i64 10, .slice (some ⟨W7.heap.size, 0, none⟩) 2 2, .int .i64 0, .int .i64 0] 55)))))
    clear hr2 hs2
    obtain ⟨f0, f1, f2, f3, ff⟩ := cells4 HR9.out.2.2.2.2.2.2.2.1
    go_wp2
    obtain ⟨A1, hA1⟩ : ∃ A1 : Option Addr, A1 = some ⟨W6.heap.size, 0, none⟩ := ⟨_, rfl⟩
    obtain ⟨c1, hc1⟩ : ∃ c1 : Nat, c1 = 1 := ⟨_, rfl⟩
    obtain ⟨A2, hA2⟩ : ∃ A2 : Option Addr, A2 = some ⟨w8.heap.size, 0, none⟩ := ⟨_, rfl⟩
    obtain ⟨c2, hc2⟩ : ∃ c2 : Nat, c2 = 1 := ⟨_, rfl⟩
    have hl : ruleL 34 = [czG] := by decide
    have hr : ruleR 34 = [⟨10, [1, 0], 0, 0⟩] := by decide
    have hw : ruleW 34 = 2 := by decide
    have hp : ruleP 34 = 0 := by decide
    refine bodyPost_ret (results_cell_row rfl _ _ w.heap.size 107 _ _ _ (rfl) (set4 (HR9.out.2.2.2.2.2.2.2).1) Tryz.underlying107 rfl (by kernel_rfl)) rfl ?_
    refine ⟨A1, c1, A2, c2, by rw [hl, hr, hw, hp, hA1, hc1, hA2, hc2]; rfl, ?_, ?_, ?_, ?_, ((((HR9.out.2.2.2.2.2.2.2).2.setCell (Nat.le_refl _) _).setCell (Nat.le_refl _) _).setCell (Nat.le_refl _) _).setCell (Nat.le_refl _) _⟩
    · rw [hl]; exact ((show RdF (w.heap.size + 1) _ A1 [czG] by subst hA1; exact HR9.out.1)).set4 (Nat.le_refl _) (by omega) _ _ _ _
    · rw [hr]; exact ((show RdF (w.heap.size + 1) _ A2 [⟨10, [1, 0], 0, 0⟩] by subst hA2; exact HR9.out.2.1)).set4 (Nat.le_refl _) (by omega) _ _ _ _
    · rw [hl]; exact by subst hc1; decide
    · rw [hr]; exact by subst hc2; decide
  · skip -- rule 35
    obtain ⟨A, c, q3, hc3, hf3⟩ := HGW.out.2.2.2.1
    obtain ⟨s0, s1, s2, s3, sf⟩ := cells4 q3
    have HQ := Lib.hid (And.intro q3 (And.intro hc3 hf3))
    clear q3 hc3 hf3
    go_wp2_with fail
    refine (rOf_any _ _).mono ?_
    rintro e w7 ⟨rfl, rfl⟩
    have hs1 : Reps (EGf (w.heap.size + 1) W6) 4 [swG] [.int .i64 swG.kind, .slice A swG.wires.length c, .int .i64 swG.bit, .int .i64 swG.cif] := ((Reps.nil _ _).snoc (show EGf _ W6 swG [.int .i64 swG.kind, .slice A swG.wires.length c, .int .i64 swG.bit, .int .i64 swG.cif] from ⟨A, c, rfl, HQ.out.2.1, HQ.out.2.2⟩) rfl)
    have hr1 := RdF.lit (w := W6) HGW.out.1 (by decide) hs1
    obtain ⟨W7, hW7⟩ : ∃ W7, (W6.alloc (.cells #[.int .i64 swG.kind, .slice A swG.wires.length c, .int .i64 swG.bit, .int .i64 swG.cif] 55)) = W7 := ⟨_, rfl⟩
    have h67 : Below W6.heap.size W6 W7 := by rw [← hW7]; (repeat (first|exact bR _ _|assumption|apply bN|apply bA|apply bD))
    have HR := Lib.hid (show RdF (w.heap.size + 1) W7 (some ⟨W6.heap.size, 0, none⟩) [swG] ∧ WG w w5.heap.size W7 from ⟨by rw [← hW7]; exact hr1, HGW.out.below h67⟩)
    rw [hW7]
    clear hW7 h67 hr1 hs1
    go_wp2_with fail
    refine (rG_any 11 _ _ _ _).mono ?_
    rintro e w8 ⟨rfl, hb8⟩
    have hr8 := (RdIF.lit (n := w.heap.size + 1) (w := W7) HR.out.2.1 [1, 0] (by decide)).below hb8
    have h78 : Below W7.heap.size W7 w8 := (below_alloc (Below.refl _ _) _).trans (hb8.mono (by simp))
    have HR8 := Lib.hid (And.intro (HR.out.1.below h78) (And.intro (HR.out.2.below h78) hr8))
    clear hb8 hr8 h78
    go_wp2_with fail
    refine (rOf_any _ _).mono ?_
    rintro e w9 ⟨rfl, rfl⟩
    have hs2 : Reps (EGf (w.heap.size + 1) w8) 4 [(⟨11, [1, 0], 0, 0⟩ : G)] [.int .i64 11, .slice (some ⟨W7.heap.size, 0, none⟩) 2 2, .int .i64 0, .int .i64 0] := (Reps.nil _ _).snoc (show EGf _ w8 ⟨11, [1, 0], 0, 0⟩ [.int .i64 11, .slice (some ⟨W7.heap.size, 0, none⟩) 2 2, .int .i64 0, .int .i64 0] from ⟨_, _, rfl, by decide, HR8.out.2.2⟩) rfl
    have hr2 := RdF.lit (w := w8) HR8.out.2.1.1 (by decide) hs2
    have HR9 := Lib.hid (And.intro (HR8.out.1.below (below_alloc (Below.refl _ _) (.cells #[.int .i64 11, .slice (some ⟨W7.heap.size, 0, none⟩) 2 2, .int .i64 0, .int .i64 0] 55))) (And.intro hr2 (HR8.out.2.1.below (below_alloc (Below.refl _ _) (.cells #[.int .i64 11, .slice (some ⟨W7.heap.size, 0, none⟩) 2 2, .int .i64 0, .int .i64 0] 55)))))
    clear hr2 hs2
    obtain ⟨f0, f1, f2, f3, ff⟩ := cells4 HR9.out.2.2.2.2.2.2.2.1
    go_wp2
    obtain ⟨A1, hA1⟩ : ∃ A1 : Option Addr, A1 = some ⟨W6.heap.size, 0, none⟩ := ⟨_, rfl⟩
    obtain ⟨c1, hc1⟩ : ∃ c1 : Nat, c1 = 1 := ⟨_, rfl⟩
    obtain ⟨A2, hA2⟩ : ∃ A2 : Option Addr, A2 = some ⟨w8.heap.size, 0, none⟩ := ⟨_, rfl⟩
    obtain ⟨c2, hc2⟩ : ∃ c2 : Nat, c2 = 1 := ⟨_, rfl⟩
    have hl : ruleL 35 = [swG] := by decide
    have hr : ruleR 35 = [⟨11, [1, 0], 0, 0⟩] := by decide
    have hw : ruleW 35 = 2 := by decide
    have hp : ruleP 35 = 0 := by decide
    refine bodyPost_ret (results_cell_row rfl _ _ w.heap.size 107 _ _ _ (rfl) (set4 (HR9.out.2.2.2.2.2.2.2).1) Tryz.underlying107 rfl (by kernel_rfl)) rfl ?_
    refine ⟨A1, c1, A2, c2, by rw [hl, hr, hw, hp, hA1, hc1, hA2, hc2]; rfl, ?_, ?_, ?_, ?_, ((((HR9.out.2.2.2.2.2.2.2).2.setCell (Nat.le_refl _) _).setCell (Nat.le_refl _) _).setCell (Nat.le_refl _) _).setCell (Nat.le_refl _) _⟩
    · rw [hl]; exact ((show RdF (w.heap.size + 1) _ A1 [swG] by subst hA1; exact HR9.out.1)).set4 (Nat.le_refl _) (by omega) _ _ _ _
    · rw [hr]; exact ((show RdF (w.heap.size + 1) _ A2 [⟨11, [1, 0], 0, 0⟩] by subst hA2; exact HR9.out.2.1)).set4 (Nat.le_refl _) (by omega) _ _ _ _
    · rw [hl]; exact by subst hc1; decide
    · rw [hr]; exact by subst hc2; decide
  · skip -- rule 41
    obtain ⟨A, c, q3, hc3, hf3⟩ := HGW.out.2.2.2.2.1
    obtain ⟨s0, s1, s2, s3, sf⟩ := cells4 q3
    have HQ := Lib.hid (And.intro q3 (And.intro hc3 hf3))
    clear q3 hc3 hf3
    go_wp2_with fail
    refine (rOf_any _ _).mono ?_
    rintro e w7 ⟨rfl, rfl⟩
    have hs1 : Reps (EGf (w.heap.size + 1) W6) 4 [ccG] [.int .i64 ccG.kind, .slice A ccG.wires.length c, .int .i64 ccG.bit, .int .i64 ccG.cif] := ((Reps.nil _ _).snoc (show EGf _ W6 ccG [.int .i64 ccG.kind, .slice A ccG.wires.length c, .int .i64 ccG.bit, .int .i64 ccG.cif] from ⟨A, c, rfl, HQ.out.2.1, HQ.out.2.2⟩) rfl)
    have hr1 := RdF.lit (w := W6) HGW.out.1 (by decide) hs1
    obtain ⟨W7, hW7⟩ : ∃ W7, (W6.alloc (.cells #[.int .i64 ccG.kind, .slice A ccG.wires.length c, .int .i64 ccG.bit, .int .i64 ccG.cif] 55)) = W7 := ⟨_, rfl⟩
    have h67 : Below W6.heap.size W6 W7 := by rw [← hW7]; (repeat (first|exact bR _ _|assumption|apply bN|apply bA|apply bD))
    have HR := Lib.hid (show RdF (w.heap.size + 1) W7 (some ⟨W6.heap.size, 0, none⟩) [ccG] ∧ WG w w5.heap.size W7 from ⟨by rw [← hW7]; exact hr1, HGW.out.below h67⟩)
    rw [hW7]
    clear hW7 h67 hr1 hs1
    go_wp2_with fail
    refine (rG_any 12 _ _ _ _).mono ?_
    rintro e w8 ⟨rfl, hb8⟩
    have hr8 := (RdIF.lit (n := w.heap.size + 1) (w := W7) HR.out.2.1 [1, 0, 2] (by decide)).below hb8
    have h78 : Below W7.heap.size W7 w8 := (below_alloc (Below.refl _ _) _).trans (hb8.mono (by simp))
    have HR8 := Lib.hid (And.intro (HR.out.1.below h78) (And.intro (HR.out.2.below h78) hr8))
    clear hb8 hr8 h78
    go_wp2_with fail
    refine (rOf_any _ _).mono ?_
    rintro e w9 ⟨rfl, rfl⟩
    have hs2 : Reps (EGf (w.heap.size + 1) w8) 4 [(⟨12, [1, 0, 2], 0, 0⟩ : G)] [.int .i64 12, .slice (some ⟨W7.heap.size, 0, none⟩) 3 3, .int .i64 0, .int .i64 0] := (Reps.nil _ _).snoc (show EGf _ w8 ⟨12, [1, 0, 2], 0, 0⟩ [.int .i64 12, .slice (some ⟨W7.heap.size, 0, none⟩) 3 3, .int .i64 0, .int .i64 0] from ⟨_, _, rfl, by decide, HR8.out.2.2⟩) rfl
    have hr2 := RdF.lit (w := w8) HR8.out.2.1.1 (by decide) hs2
    have HR9 := Lib.hid (And.intro (HR8.out.1.below (below_alloc (Below.refl _ _) (.cells #[.int .i64 12, .slice (some ⟨W7.heap.size, 0, none⟩) 3 3, .int .i64 0, .int .i64 0] 55))) (And.intro hr2 (HR8.out.2.1.below (below_alloc (Below.refl _ _) (.cells #[.int .i64 12, .slice (some ⟨W7.heap.size, 0, none⟩) 3 3, .int .i64 0, .int .i64 0] 55)))))
    clear hr2 hs2
    obtain ⟨f0, f1, f2, f3, ff⟩ := cells4 HR9.out.2.2.2.2.2.2.2.1
    go_wp2
    obtain ⟨A1, hA1⟩ : ∃ A1 : Option Addr, A1 = some ⟨W6.heap.size, 0, none⟩ := ⟨_, rfl⟩
    obtain ⟨c1, hc1⟩ : ∃ c1 : Nat, c1 = 1 := ⟨_, rfl⟩
    obtain ⟨A2, hA2⟩ : ∃ A2 : Option Addr, A2 = some ⟨w8.heap.size, 0, none⟩ := ⟨_, rfl⟩
    obtain ⟨c2, hc2⟩ : ∃ c2 : Nat, c2 = 1 := ⟨_, rfl⟩
    have hl : ruleL 41 = [ccG] := by decide
    have hr : ruleR 41 = [⟨12, [1, 0, 2], 0, 0⟩] := by decide
    have hw : ruleW 41 = 3 := by decide
    have hp : ruleP 41 = 0 := by decide
    refine bodyPost_ret (results_cell_row rfl _ _ w.heap.size 107 _ _ _ (rfl) (set4 (HR9.out.2.2.2.2.2.2.2).1) Tryz.underlying107 rfl (by kernel_rfl)) rfl ?_
    refine ⟨A1, c1, A2, c2, by rw [hl, hr, hw, hp, hA1, hc1, hA2, hc2]; rfl, ?_, ?_, ?_, ?_, ((((HR9.out.2.2.2.2.2.2.2).2.setCell (Nat.le_refl _) _).setCell (Nat.le_refl _) _).setCell (Nat.le_refl _) _).setCell (Nat.le_refl _) _⟩
    · rw [hl]; exact ((show RdF (w.heap.size + 1) _ A1 [ccG] by subst hA1; exact HR9.out.1)).set4 (Nat.le_refl _) (by omega) _ _ _ _
    · rw [hr]; exact ((show RdF (w.heap.size + 1) _ A2 [⟨12, [1, 0, 2], 0, 0⟩] by subst hA2; exact HR9.out.2.1)).set4 (Nat.le_refl _) (by omega) _ _ _ _
    · rw [hl]; exact by subst hc1; decide
    · rw [hr]; exact by subst hc2; decide
  · skip -- rule 33
    go_wp2
    refine wp_region_mr (by kernel_rfl) 11 (by kernel_rfl) (by kernel_rfl) (by simp) (by kernel_rfl) (fun j => (RK.say (w.heap.size + 1) ([.ints [1], .gate ⟨4, [1], 0, 0⟩, .gate cxG, .ints [1], .gate ⟨4, [1], 0, 0⟩, .gates [⟨4, [1], 0, 0⟩, cxG, ⟨4, [1], 0, 0⟩], .gates [⟨4, [1], 0, 0⟩, cxG, ⟨4, [1], 0, 0⟩], .gate czG, .gates [czG], .gates [czG], .rule 2 [⟨4, [1], 0, 0⟩, cxG, ⟨4, [1], 0, 0⟩] [czG] 0].getD j .any))) (WG w w5.heap.size) (fun j v w w' h hb => RK.below h hb) (fun w w' h hb => h.below hb) HGW.out ?step ?fin
    case step =>
      intro i o a' W ho hin hlook hG
      have hi := (Array.getElem?_eq_some_iff.1 ho).1
      simp only [List.size_toArray, List.length_cons, List.length_nil, Nat.reduceAdd] at hi
      rcases (show i = 0 ∨ i = 1 ∨ i = 2 ∨ i = 3 ∨ i = 4 ∨ i = 5 ∨ i = 6 ∨ i = 7 ∨ i = 8 ∨ i = 9 ∨ i = 10 by omega) with rfl | rfl | rfl | rfl | rfl | rfl | rfl | rfl | rfl | rfl | rfl
      · obtain rfl := Option.some.inj ho
        exact ⟨rfl, mrA1 hG.1 1 rfl⟩
      · obtain rfl := Option.some.inj ho
        obtain ⟨v0, e0, r0⟩ := look_val hlook 0 46 (by kernel_rfl) (show 46 < 196 from by decide)
        exact ⟨rfl, mrB 4 46 [1] rfl e0 r0⟩
      · obtain rfl := Option.some.inj ho
        have e0 := look_old hlook 3 (by kernel_rfl)
        exact ⟨rfl, mrC 3 _ cxG rfl e0 hG.2.1⟩
      · obtain rfl := Option.some.inj ho
        exact ⟨rfl, mrA1 hG.1 1 rfl⟩
      · obtain rfl := Option.some.inj ho
        obtain ⟨v0, e0, r0⟩ := look_val hlook 3 49 (by kernel_rfl) (show 49 < 196 from by decide)
        exact ⟨rfl, mrB 4 49 [1] rfl e0 r0⟩
      · obtain rfl := Option.some.inj ho
        obtain ⟨v0, e0, r0⟩ := look_val hlook 1 47 (by kernel_rfl) (show 47 < 196 from by decide)
        obtain ⟨v1, e1, r1⟩ := look_val hlook 2 48 (by kernel_rfl) (show 48 < 196 from by decide)
        obtain ⟨v2, e2, r2⟩ := look_val hlook 4 50 (by kernel_rfl) (show 50 < 196 from by decide)
        exact ⟨rfl, mrD3 47 48 50 (⟨4, [1], 0, 0⟩ : G) cxG (⟨4, [1], 0, 0⟩ : G) hG.1 rfl e0 e1 e2 r0 r1 r2⟩
      · obtain rfl := Option.some.inj ho
        obtain ⟨v0, e0, r0⟩ := look_val hlook 5 51 (by kernel_rfl) (show 51 < 196 from by decide)
        exact ⟨rfl, mrE 51 [⟨4, [1], 0, 0⟩, cxG, ⟨4, [1], 0, 0⟩] rfl e0 r0⟩
      · obtain rfl := Option.some.inj ho
        have e0 := look_old hlook 4 (by kernel_rfl)
        exact ⟨rfl, mrC 4 _ czG rfl e0 hG.2.2.1⟩
      · obtain rfl := Option.some.inj ho
        obtain ⟨v0, e0, r0⟩ := look_val hlook 7 53 (by kernel_rfl) (show 53 < 196 from by decide)
        exact ⟨rfl, mrD1 53 czG hG.1 rfl e0 r0⟩
      · obtain rfl := Option.some.inj ho
        obtain ⟨v0, e0, r0⟩ := look_val hlook 8 54 (by kernel_rfl) (show 54 < 196 from by decide)
        exact ⟨rfl, mrE 54 [czG] rfl e0 r0⟩
      · obtain rfl := Option.some.inj ho
        obtain ⟨v0, e0, r0⟩ := look_val hlook 6 52 (by kernel_rfl) (show 52 < 196 from by decide)
        obtain ⟨v1, e1, r1⟩ := look_val hlook 9 55 (by kernel_rfl) (show 55 < 196 from by decide)
        exact ⟨rfl, mrF 2 0 52 55 [⟨4, [1], 0, 0⟩, cxG, ⟨4, [1], 0, 0⟩] [czG] rfl e0 e1 r0 r1⟩
    case fin =>
      intro a' W hdf hlook hG
      obtain ⟨v0, e0, r0⟩ := look_val hlook 10 56 (by kernel_rfl) (show 56 < 196 from by decide)
      have e1 := look_old hlook 2 (by kernel_rfl)
      refine ⟨_, rfl, rfl, mrS (n := w.heap.size + 1) (m := 2) (ph := 0) (l := [⟨4, [1], 0, 0⟩, cxG, ⟨4, [1], 0, 0⟩]) (r := [czG]) 56 rfl e1 e0 r0 hG.2.2.2.2.2.1 ?_⟩
      intro A1 c1 A2 c2 k1 k2 r1 r2
      show Exit.then _ _ Exit.normal a' _
      have HK := Lib.hid (And.intro hG (And.intro k1 (And.intro k2 (And.intro r1 (And.intro r2 (show a'.tmps.getD 2 undef = .pointer (some ⟨w.heap.size, 0, none⟩) from e1))))))
      clear hG k1 k2 r1 r2 e1 e0 r0 hlook
      go_wp2
      have hl : ruleL 33 = [⟨4, [1], 0, 0⟩, cxG, ⟨4, [1], 0, 0⟩] := by decide
      have hr : ruleR 33 = [czG] := by decide
      have hw : ruleW 33 = 2 := by decide
      have hp : ruleP 33 = 0 := by decide
      exact z24t0
  · skip -- rule 36
    go_wp2
    refine wp_region_mr (by kernel_rfl) 10 (by kernel_rfl) (by kernel_rfl) (by simp) (by kernel_rfl) (fun j => (RK.say (w.heap.size + 1) ([.gate cxG, .ints [1, 0], .gate ⟨9, [1, 0], 0, 0⟩, .gate cxG, .gates [cxG, ⟨9, [1, 0], 0, 0⟩, cxG], .gates [cxG, ⟨9, [1, 0], 0, 0⟩, cxG], .gate swG, .gates [swG], .gates [swG], .rule 2 [cxG, ⟨9, [1, 0], 0, 0⟩, cxG] [swG] 0].getD j .any))) (WG w w5.heap.size) (fun j v w w' h hb => RK.below h hb) (fun w w' h hb => h.below hb) HGW.out ?step ?fin
    case step =>
      intro i o a' W ho hin hlook hG
      have hi := (Array.getElem?_eq_some_iff.1 ho).1
      simp only [List.size_toArray, List.length_cons, List.length_nil, Nat.reduceAdd] at hi
      rcases (show i = 0 ∨ i = 1 ∨ i = 2 ∨ i = 3 ∨ i = 4 ∨ i = 5 ∨ i = 6 ∨ i = 7 ∨ i = 8 ∨ i = 9 by omega) with rfl | rfl | rfl | rfl | rfl | rfl | rfl | rfl | rfl | rfl
      · obtain rfl := Option.some.inj ho
        have e0 := look_old hlook 3 (by kernel_rfl)
        exact ⟨rfl, mrC 3 _ cxG rfl e0 hG.2.1⟩
      · obtain rfl := Option.some.inj ho
        exact ⟨rfl, mrA2 hG.1 1 0 rfl⟩
      · obtain rfl := Option.some.inj ho
        obtain ⟨v0, e0, r0⟩ := look_val hlook 1 80 (by kernel_rfl) (show 80 < 196 from by decide)
        exact ⟨rfl, mrB 9 80 [1, 0] rfl e0 r0⟩
      · obtain rfl := Option.some.inj ho
        have e0 := look_old hlook 3 (by kernel_rfl)
        exact ⟨rfl, mrC 3 _ cxG rfl e0 hG.2.1⟩
      · obtain rfl := Option.some.inj ho
        obtain ⟨v0, e0, r0⟩ := look_val hlook 0 79 (by kernel_rfl) (show 79 < 196 from by decide)
        obtain ⟨v1, e1, r1⟩ := look_val hlook 2 81 (by kernel_rfl) (show 81 < 196 from by decide)
        obtain ⟨v2, e2, r2⟩ := look_val hlook 3 82 (by kernel_rfl) (show 82 < 196 from by decide)
        exact ⟨rfl, mrD3 79 81 82 cxG (⟨9, [1, 0], 0, 0⟩ : G) cxG hG.1 rfl e0 e1 e2 r0 r1 r2⟩
      · obtain rfl := Option.some.inj ho
        obtain ⟨v0, e0, r0⟩ := look_val hlook 4 83 (by kernel_rfl) (show 83 < 196 from by decide)
        exact ⟨rfl, mrE 83 [cxG, ⟨9, [1, 0], 0, 0⟩, cxG] rfl e0 r0⟩
      · obtain rfl := Option.some.inj ho
        have e0 := look_old hlook 5 (by kernel_rfl)
        exact ⟨rfl, mrC 5 _ swG rfl e0 hG.2.2.2.1⟩
      · obtain rfl := Option.some.inj ho
        obtain ⟨v0, e0, r0⟩ := look_val hlook 6 85 (by kernel_rfl) (show 85 < 196 from by decide)
        exact ⟨rfl, mrD1 85 swG hG.1 rfl e0 r0⟩
      · obtain rfl := Option.some.inj ho
        obtain ⟨v0, e0, r0⟩ := look_val hlook 7 86 (by kernel_rfl) (show 86 < 196 from by decide)
        exact ⟨rfl, mrE 86 [swG] rfl e0 r0⟩
      · obtain rfl := Option.some.inj ho
        obtain ⟨v0, e0, r0⟩ := look_val hlook 5 84 (by kernel_rfl) (show 84 < 196 from by decide)
        obtain ⟨v1, e1, r1⟩ := look_val hlook 8 87 (by kernel_rfl) (show 87 < 196 from by decide)
        exact ⟨rfl, mrF 2 0 84 87 [cxG, ⟨9, [1, 0], 0, 0⟩, cxG] [swG] rfl e0 e1 r0 r1⟩
    case fin =>
      intro a' W hdf hlook hG
      obtain ⟨v0, e0, r0⟩ := look_val hlook 9 88 (by kernel_rfl) (show 88 < 196 from by decide)
      have e1 := look_old hlook 2 (by kernel_rfl)
      refine ⟨_, rfl, rfl, mrS (n := w.heap.size + 1) (m := 2) (ph := 0) (l := [cxG, ⟨9, [1, 0], 0, 0⟩, cxG]) (r := [swG]) 88 rfl e1 e0 r0 hG.2.2.2.2.2.1 ?_⟩
      intro A1 c1 A2 c2 k1 k2 r1 r2
      show Exit.then _ _ Exit.normal a' _
      have HK := Lib.hid (And.intro hG (And.intro k1 (And.intro k2 (And.intro r1 (And.intro r2 (show a'.tmps.getD 2 undef = .pointer (some ⟨w.heap.size, 0, none⟩) from e1))))))
      clear hG k1 k2 r1 r2 e1 e0 r0 hlook
      go_wp2
      have hl : ruleL 36 = [cxG, ⟨9, [1, 0], 0, 0⟩, cxG] := by decide
      have hr : ruleR 36 = [swG] := by decide
      have hw : ruleW 36 = 2 := by decide
      have hp : ruleP 36 = 0 := by decide
      exact z24t0
  · skip -- rule 37
    go_wp2
    refine wp_region_mr (by kernel_rfl) 16 (by kernel_rfl) (by kernel_rfl) (by simp) (by kernel_rfl) (fun j => (RK.say (w.heap.size + 1) ([.ints [0], .gate ⟨4, [0], 0, 0⟩, .ints [1], .gate ⟨4, [1], 0, 0⟩, .gate cxG, .ints [0], .gate ⟨4, [0], 0, 0⟩, .ints [1], .gate ⟨4, [1], 0, 0⟩, .gates [⟨4, [0], 0, 0⟩, ⟨4, [1], 0, 0⟩, cxG, ⟨4, [0], 0, 0⟩, ⟨4, [1], 0, 0⟩], .gates [⟨4, [0], 0, 0⟩, ⟨4, [1], 0, 0⟩, cxG, ⟨4, [0], 0, 0⟩, ⟨4, [1], 0, 0⟩], .ints [1, 0], .gate ⟨9, [1, 0], 0, 0⟩, .gates [⟨9, [1, 0], 0, 0⟩], .gates [⟨9, [1, 0], 0, 0⟩], .rule 2 [⟨4, [0], 0, 0⟩, ⟨4, [1], 0, 0⟩, cxG, ⟨4, [0], 0, 0⟩, ⟨4, [1], 0, 0⟩] [⟨9, [1, 0], 0, 0⟩] 0].getD j .any))) (WG w w5.heap.size) (fun j v w w' h hb => RK.below h hb) (fun w w' h hb => h.below hb) HGW.out ?step ?fin
    case step =>
      intro i o a' W ho hin hlook hG
      have hi := (Array.getElem?_eq_some_iff.1 ho).1
      simp only [List.size_toArray, List.length_cons, List.length_nil, Nat.reduceAdd] at hi
      rcases (show i = 0 ∨ i = 1 ∨ i = 2 ∨ i = 3 ∨ i = 4 ∨ i = 5 ∨ i = 6 ∨ i = 7 ∨ i = 8 ∨ i = 9 ∨ i = 10 ∨ i = 11 ∨ i = 12 ∨ i = 13 ∨ i = 14 ∨ i = 15 by omega) with rfl | rfl | rfl | rfl | rfl | rfl | rfl | rfl | rfl | rfl | rfl | rfl | rfl | rfl | rfl | rfl
      · obtain rfl := Option.some.inj ho
        exact ⟨rfl, mrA1 hG.1 0 rfl⟩
      · obtain rfl := Option.some.inj ho
        obtain ⟨v0, e0, r0⟩ := look_val hlook 0 91 (by kernel_rfl) (show 91 < 196 from by decide)
        exact ⟨rfl, mrB 4 91 [0] rfl e0 r0⟩
      · obtain rfl := Option.some.inj ho
        exact ⟨rfl, mrA1 hG.1 1 rfl⟩
      · obtain rfl := Option.some.inj ho
        obtain ⟨v0, e0, r0⟩ := look_val hlook 2 93 (by kernel_rfl) (show 93 < 196 from by decide)
        exact ⟨rfl, mrB 4 93 [1] rfl e0 r0⟩
      · obtain rfl := Option.some.inj ho
        have e0 := look_old hlook 3 (by kernel_rfl)
        exact ⟨rfl, mrC 3 _ cxG rfl e0 hG.2.1⟩
      · obtain rfl := Option.some.inj ho
        exact ⟨rfl, mrA1 hG.1 0 rfl⟩
      · obtain rfl := Option.some.inj ho
        obtain ⟨v0, e0, r0⟩ := look_val hlook 5 96 (by kernel_rfl) (show 96 < 196 from by decide)
        exact ⟨rfl, mrB 4 96 [0] rfl e0 r0⟩
      · obtain rfl := Option.some.inj ho
        exact ⟨rfl, mrA1 hG.1 1 rfl⟩
      · obtain rfl := Option.some.inj ho
        obtain ⟨v0, e0, r0⟩ := look_val hlook 7 98 (by kernel_rfl) (show 98 < 196 from by decide)
        exact ⟨rfl, mrB 4 98 [1] rfl e0 r0⟩
      · obtain rfl := Option.some.inj ho
        obtain ⟨v0, e0, r0⟩ := look_val hlook 1 92 (by kernel_rfl) (show 92 < 196 from by decide)
        obtain ⟨v1, e1, r1⟩ := look_val hlook 3 94 (by kernel_rfl) (show 94 < 196 from by decide)
        obtain ⟨v2, e2, r2⟩ := look_val hlook 4 95 (by kernel_rfl) (show 95 < 196 from by decide)
        obtain ⟨v3, e3, r3⟩ := look_val hlook 6 97 (by kernel_rfl) (show 97 < 196 from by decide)
        obtain ⟨v4, e4, r4⟩ := look_val hlook 8 99 (by kernel_rfl) (show 99 < 196 from by decide)
        exact ⟨rfl, mrD5 92 94 95 97 99 (⟨4, [0], 0, 0⟩ : G) (⟨4, [1], 0, 0⟩ : G) cxG (⟨4, [0], 0, 0⟩ : G) (⟨4, [1], 0, 0⟩ : G) hG.1 rfl e0 e1 e2 e3 e4 r0 r1 r2 r3 r4⟩
      · obtain rfl := Option.some.inj ho
        obtain ⟨v0, e0, r0⟩ := look_val hlook 9 100 (by kernel_rfl) (show 100 < 196 from by decide)
        exact ⟨rfl, mrE 100 [⟨4, [0], 0, 0⟩, ⟨4, [1], 0, 0⟩, cxG, ⟨4, [0], 0, 0⟩, ⟨4, [1], 0, 0⟩] rfl e0 r0⟩
      · obtain rfl := Option.some.inj ho
        exact ⟨rfl, mrA2 hG.1 1 0 rfl⟩
      · obtain rfl := Option.some.inj ho
        obtain ⟨v0, e0, r0⟩ := look_val hlook 11 102 (by kernel_rfl) (show 102 < 196 from by decide)
        exact ⟨rfl, mrB 9 102 [1, 0] rfl e0 r0⟩
      · obtain rfl := Option.some.inj ho
        obtain ⟨v0, e0, r0⟩ := look_val hlook 12 103 (by kernel_rfl) (show 103 < 196 from by decide)
        exact ⟨rfl, mrD1 103 (⟨9, [1, 0], 0, 0⟩ : G) hG.1 rfl e0 r0⟩
      · obtain rfl := Option.some.inj ho
        obtain ⟨v0, e0, r0⟩ := look_val hlook 13 104 (by kernel_rfl) (show 104 < 196 from by decide)
        exact ⟨rfl, mrE 104 [⟨9, [1, 0], 0, 0⟩] rfl e0 r0⟩
      · obtain rfl := Option.some.inj ho
        obtain ⟨v0, e0, r0⟩ := look_val hlook 10 101 (by kernel_rfl) (show 101 < 196 from by decide)
        obtain ⟨v1, e1, r1⟩ := look_val hlook 14 105 (by kernel_rfl) (show 105 < 196 from by decide)
        exact ⟨rfl, mrF 2 0 101 105 [⟨4, [0], 0, 0⟩, ⟨4, [1], 0, 0⟩, cxG, ⟨4, [0], 0, 0⟩, ⟨4, [1], 0, 0⟩] [⟨9, [1, 0], 0, 0⟩] rfl e0 e1 r0 r1⟩
    case fin =>
      intro a' W hdf hlook hG
      obtain ⟨v0, e0, r0⟩ := look_val hlook 15 106 (by kernel_rfl) (show 106 < 196 from by decide)
      have e1 := look_old hlook 2 (by kernel_rfl)
      refine ⟨_, rfl, rfl, mrS (n := w.heap.size + 1) (m := 2) (ph := 0) (l := [⟨4, [0], 0, 0⟩, ⟨4, [1], 0, 0⟩, cxG, ⟨4, [0], 0, 0⟩, ⟨4, [1], 0, 0⟩]) (r := [⟨9, [1, 0], 0, 0⟩]) 106 rfl e1 e0 r0 hG.2.2.2.2.2.1 ?_⟩
      intro A1 c1 A2 c2 k1 k2 r1 r2
      show Exit.then _ _ Exit.normal a' _
      have HK := Lib.hid (And.intro hG (And.intro k1 (And.intro k2 (And.intro r1 (And.intro r2 (show a'.tmps.getD 2 undef = .pointer (some ⟨w.heap.size, 0, none⟩) from e1))))))
      clear hG k1 k2 r1 r2 e1 e0 r0 hlook
      go_wp2
      have hl : ruleL 37 = [⟨4, [0], 0, 0⟩, ⟨4, [1], 0, 0⟩, cxG, ⟨4, [0], 0, 0⟩, ⟨4, [1], 0, 0⟩] := by decide
      have hr : ruleR 37 = [⟨9, [1, 0], 0, 0⟩] := by decide
      have hw : ruleW 37 = 2 := by decide
      have hp : ruleP 37 = 0 := by decide
      exact z24t0
  · skip -- rule 38
    go_wp2
    refine wp_region_mr (by kernel_rfl) 13 (by kernel_rfl) (by kernel_rfl) (by simp) (by kernel_rfl) (fun j => (RK.say (w.heap.size + 1) ([.ints [0], .gate ⟨1, [0], 0, 0⟩, .gate cxG, .ints [0], .gate ⟨1, [0], 0, 0⟩, .gates [⟨1, [0], 0, 0⟩, cxG, ⟨1, [0], 0, 0⟩], .gates [⟨1, [0], 0, 0⟩, cxG, ⟨1, [0], 0, 0⟩], .gate cxG, .ints [1], .gate ⟨1, [1], 0, 0⟩, .gates [cxG, ⟨1, [1], 0, 0⟩], .gates [cxG, ⟨1, [1], 0, 0⟩], .rule 2 [⟨1, [0], 0, 0⟩, cxG, ⟨1, [0], 0, 0⟩] [cxG, ⟨1, [1], 0, 0⟩] 0].getD j .any))) (WG w w5.heap.size) (fun j v w w' h hb => RK.below h hb) (fun w w' h hb => h.below hb) HGW.out ?step ?fin
    case step =>
      intro i o a' W ho hin hlook hG
      have hi := (Array.getElem?_eq_some_iff.1 ho).1
      simp only [List.size_toArray, List.length_cons, List.length_nil, Nat.reduceAdd] at hi
      rcases (show i = 0 ∨ i = 1 ∨ i = 2 ∨ i = 3 ∨ i = 4 ∨ i = 5 ∨ i = 6 ∨ i = 7 ∨ i = 8 ∨ i = 9 ∨ i = 10 ∨ i = 11 ∨ i = 12 by omega) with rfl | rfl | rfl | rfl | rfl | rfl | rfl | rfl | rfl | rfl | rfl | rfl | rfl
      · obtain rfl := Option.some.inj ho
        exact ⟨rfl, mrA1 hG.1 0 rfl⟩
      · obtain rfl := Option.some.inj ho
        obtain ⟨v0, e0, r0⟩ := look_val hlook 0 109 (by kernel_rfl) (show 109 < 196 from by decide)
        exact ⟨rfl, mrB 1 109 [0] rfl e0 r0⟩
      · obtain rfl := Option.some.inj ho
        have e0 := look_old hlook 3 (by kernel_rfl)
        exact ⟨rfl, mrC 3 _ cxG rfl e0 hG.2.1⟩
      · obtain rfl := Option.some.inj ho
        exact ⟨rfl, mrA1 hG.1 0 rfl⟩
      · obtain rfl := Option.some.inj ho
        obtain ⟨v0, e0, r0⟩ := look_val hlook 3 112 (by kernel_rfl) (show 112 < 196 from by decide)
        exact ⟨rfl, mrB 1 112 [0] rfl e0 r0⟩
      · obtain rfl := Option.some.inj ho
        obtain ⟨v0, e0, r0⟩ := look_val hlook 1 110 (by kernel_rfl) (show 110 < 196 from by decide)
        obtain ⟨v1, e1, r1⟩ := look_val hlook 2 111 (by kernel_rfl) (show 111 < 196 from by decide)
        obtain ⟨v2, e2, r2⟩ := look_val hlook 4 113 (by kernel_rfl) (show 113 < 196 from by decide)
        exact ⟨rfl, mrD3 110 111 113 (⟨1, [0], 0, 0⟩ : G) cxG (⟨1, [0], 0, 0⟩ : G) hG.1 rfl e0 e1 e2 r0 r1 r2⟩
      · obtain rfl := Option.some.inj ho
        obtain ⟨v0, e0, r0⟩ := look_val hlook 5 114 (by kernel_rfl) (show 114 < 196 from by decide)
        exact ⟨rfl, mrE 114 [⟨1, [0], 0, 0⟩, cxG, ⟨1, [0], 0, 0⟩] rfl e0 r0⟩
      · obtain rfl := Option.some.inj ho
        have e0 := look_old hlook 3 (by kernel_rfl)
        exact ⟨rfl, mrC 3 _ cxG rfl e0 hG.2.1⟩
      · obtain rfl := Option.some.inj ho
        exact ⟨rfl, mrA1 hG.1 1 rfl⟩
      · obtain rfl := Option.some.inj ho
        obtain ⟨v0, e0, r0⟩ := look_val hlook 8 117 (by kernel_rfl) (show 117 < 196 from by decide)
        exact ⟨rfl, mrB 1 117 [1] rfl e0 r0⟩
      · obtain rfl := Option.some.inj ho
        obtain ⟨v0, e0, r0⟩ := look_val hlook 7 116 (by kernel_rfl) (show 116 < 196 from by decide)
        obtain ⟨v1, e1, r1⟩ := look_val hlook 9 118 (by kernel_rfl) (show 118 < 196 from by decide)
        exact ⟨rfl, mrD2 116 118 cxG (⟨1, [1], 0, 0⟩ : G) hG.1 rfl e0 e1 r0 r1⟩
      · obtain rfl := Option.some.inj ho
        obtain ⟨v0, e0, r0⟩ := look_val hlook 10 119 (by kernel_rfl) (show 119 < 196 from by decide)
        exact ⟨rfl, mrE 119 [cxG, ⟨1, [1], 0, 0⟩] rfl e0 r0⟩
      · obtain rfl := Option.some.inj ho
        obtain ⟨v0, e0, r0⟩ := look_val hlook 6 115 (by kernel_rfl) (show 115 < 196 from by decide)
        obtain ⟨v1, e1, r1⟩ := look_val hlook 11 120 (by kernel_rfl) (show 120 < 196 from by decide)
        exact ⟨rfl, mrF 2 0 115 120 [⟨1, [0], 0, 0⟩, cxG, ⟨1, [0], 0, 0⟩] [cxG, ⟨1, [1], 0, 0⟩] rfl e0 e1 r0 r1⟩
    case fin =>
      intro a' W hdf hlook hG
      obtain ⟨v0, e0, r0⟩ := look_val hlook 12 121 (by kernel_rfl) (show 121 < 196 from by decide)
      have e1 := look_old hlook 2 (by kernel_rfl)
      refine ⟨_, rfl, rfl, mrS (n := w.heap.size + 1) (m := 2) (ph := 0) (l := [⟨1, [0], 0, 0⟩, cxG, ⟨1, [0], 0, 0⟩]) (r := [cxG, ⟨1, [1], 0, 0⟩]) 121 rfl e1 e0 r0 hG.2.2.2.2.2.1 ?_⟩
      intro A1 c1 A2 c2 k1 k2 r1 r2
      show Exit.then _ _ Exit.normal a' _
      have HK := Lib.hid (And.intro hG (And.intro k1 (And.intro k2 (And.intro r1 (And.intro r2 (show a'.tmps.getD 2 undef = .pointer (some ⟨w.heap.size, 0, none⟩) from e1))))))
      clear hG k1 k2 r1 r2 e1 e0 r0 hlook
      go_wp2
      have hl : ruleL 38 = [⟨1, [0], 0, 0⟩, cxG, ⟨1, [0], 0, 0⟩] := by decide
      have hr : ruleR 38 = [cxG, ⟨1, [1], 0, 0⟩] := by decide
      have hw : ruleW 38 = 2 := by decide
      have hp : ruleP 38 = 0 := by decide
      exact z24t0
  · skip -- rule 39
    go_wp2
    refine wp_region_mr (by kernel_rfl) 13 (by kernel_rfl) (by kernel_rfl) (by simp) (by kernel_rfl) (fun j => (RK.say (w.heap.size + 1) ([.ints [1], .gate ⟨3, [1], 0, 0⟩, .gate cxG, .ints [1], .gate ⟨3, [1], 0, 0⟩, .gates [⟨3, [1], 0, 0⟩, cxG, ⟨3, [1], 0, 0⟩], .gates [⟨3, [1], 0, 0⟩, cxG, ⟨3, [1], 0, 0⟩], .ints [0], .gate ⟨3, [0], 0, 0⟩, .gate cxG, .gates [⟨3, [0], 0, 0⟩, cxG], .gates [⟨3, [0], 0, 0⟩, cxG], .rule 2 [⟨3, [1], 0, 0⟩, cxG, ⟨3, [1], 0, 0⟩] [⟨3, [0], 0, 0⟩, cxG] 0].getD j .any))) (WG w w5.heap.size) (fun j v w w' h hb => RK.below h hb) (fun w w' h hb => h.below hb) HGW.out ?step ?fin
    case step =>
      intro i o a' W ho hin hlook hG
      have hi := (Array.getElem?_eq_some_iff.1 ho).1
      simp only [List.size_toArray, List.length_cons, List.length_nil, Nat.reduceAdd] at hi
      rcases (show i = 0 ∨ i = 1 ∨ i = 2 ∨ i = 3 ∨ i = 4 ∨ i = 5 ∨ i = 6 ∨ i = 7 ∨ i = 8 ∨ i = 9 ∨ i = 10 ∨ i = 11 ∨ i = 12 by omega) with rfl | rfl | rfl | rfl | rfl | rfl | rfl | rfl | rfl | rfl | rfl | rfl | rfl
      · obtain rfl := Option.some.inj ho
        exact ⟨rfl, mrA1 hG.1 1 rfl⟩
      · obtain rfl := Option.some.inj ho
        obtain ⟨v0, e0, r0⟩ := look_val hlook 0 124 (by kernel_rfl) (show 124 < 196 from by decide)
        exact ⟨rfl, mrB 3 124 [1] rfl e0 r0⟩
      · obtain rfl := Option.some.inj ho
        have e0 := look_old hlook 3 (by kernel_rfl)
        exact ⟨rfl, mrC 3 _ cxG rfl e0 hG.2.1⟩
      · obtain rfl := Option.some.inj ho
        exact ⟨rfl, mrA1 hG.1 1 rfl⟩
      · obtain rfl := Option.some.inj ho
        obtain ⟨v0, e0, r0⟩ := look_val hlook 3 127 (by kernel_rfl) (show 127 < 196 from by decide)
        exact ⟨rfl, mrB 3 127 [1] rfl e0 r0⟩
      · obtain rfl := Option.some.inj ho
        obtain ⟨v0, e0, r0⟩ := look_val hlook 1 125 (by kernel_rfl) (show 125 < 196 from by decide)
        obtain ⟨v1, e1, r1⟩ := look_val hlook 2 126 (by kernel_rfl) (show 126 < 196 from by decide)
        obtain ⟨v2, e2, r2⟩ := look_val hlook 4 128 (by kernel_rfl) (show 128 < 196 from by decide)
        exact ⟨rfl, mrD3 125 126 128 (⟨3, [1], 0, 0⟩ : G) cxG (⟨3, [1], 0, 0⟩ : G) hG.1 rfl e0 e1 e2 r0 r1 r2⟩
      · obtain rfl := Option.some.inj ho
        obtain ⟨v0, e0, r0⟩ := look_val hlook 5 129 (by kernel_rfl) (show 129 < 196 from by decide)
        exact ⟨rfl, mrE 129 [⟨3, [1], 0, 0⟩, cxG, ⟨3, [1], 0, 0⟩] rfl e0 r0⟩
      · obtain rfl := Option.some.inj ho
        exact ⟨rfl, mrA1 hG.1 0 rfl⟩
      · obtain rfl := Option.some.inj ho
        obtain ⟨v0, e0, r0⟩ := look_val hlook 7 131 (by kernel_rfl) (show 131 < 196 from by decide)
        exact ⟨rfl, mrB 3 131 [0] rfl e0 r0⟩
      · obtain rfl := Option.some.inj ho
        have e0 := look_old hlook 3 (by kernel_rfl)
        exact ⟨rfl, mrC 3 _ cxG rfl e0 hG.2.1⟩
      · obtain rfl := Option.some.inj ho
        obtain ⟨v0, e0, r0⟩ := look_val hlook 8 132 (by kernel_rfl) (show 132 < 196 from by decide)
        obtain ⟨v1, e1, r1⟩ := look_val hlook 9 133 (by kernel_rfl) (show 133 < 196 from by decide)
        exact ⟨rfl, mrD2 132 133 (⟨3, [0], 0, 0⟩ : G) cxG hG.1 rfl e0 e1 r0 r1⟩
      · obtain rfl := Option.some.inj ho
        obtain ⟨v0, e0, r0⟩ := look_val hlook 10 134 (by kernel_rfl) (show 134 < 196 from by decide)
        exact ⟨rfl, mrE 134 [⟨3, [0], 0, 0⟩, cxG] rfl e0 r0⟩
      · obtain rfl := Option.some.inj ho
        obtain ⟨v0, e0, r0⟩ := look_val hlook 6 130 (by kernel_rfl) (show 130 < 196 from by decide)
        obtain ⟨v1, e1, r1⟩ := look_val hlook 11 135 (by kernel_rfl) (show 135 < 196 from by decide)
        exact ⟨rfl, mrF 2 0 130 135 [⟨3, [1], 0, 0⟩, cxG, ⟨3, [1], 0, 0⟩] [⟨3, [0], 0, 0⟩, cxG] rfl e0 e1 r0 r1⟩
    case fin =>
      intro a' W hdf hlook hG
      obtain ⟨v0, e0, r0⟩ := look_val hlook 12 136 (by kernel_rfl) (show 136 < 196 from by decide)
      have e1 := look_old hlook 2 (by kernel_rfl)
      refine ⟨_, rfl, rfl, mrS (n := w.heap.size + 1) (m := 2) (ph := 0) (l := [⟨3, [1], 0, 0⟩, cxG, ⟨3, [1], 0, 0⟩]) (r := [⟨3, [0], 0, 0⟩, cxG]) 136 rfl e1 e0 r0 hG.2.2.2.2.2.1 ?_⟩
      intro A1 c1 A2 c2 k1 k2 r1 r2
      show Exit.then _ _ Exit.normal a' _
      have HK := Lib.hid (And.intro hG (And.intro k1 (And.intro k2 (And.intro r1 (And.intro r2 (show a'.tmps.getD 2 undef = .pointer (some ⟨w.heap.size, 0, none⟩) from e1))))))
      clear hG k1 k2 r1 r2 e1 e0 r0 hlook
      go_wp2
      have hl : ruleL 39 = [⟨3, [1], 0, 0⟩, cxG, ⟨3, [1], 0, 0⟩] := by decide
      have hr : ruleR 39 = [⟨3, [0], 0, 0⟩, cxG] := by decide
      have hw : ruleW 39 = 2 := by decide
      have hp : ruleP 39 = 0 := by decide
      exact z24t0
  · skip -- rule 40
    go_wp2
    refine wp_region_mr (by kernel_rfl) 13 (by kernel_rfl) (by kernel_rfl) (by simp) (by kernel_rfl) (fun j => (RK.say (w.heap.size + 1) ([.gate cxG, .ints [1, 2], .gate ⟨9, [1, 2], 0, 0⟩, .gate cxG, .ints [1, 2], .gate ⟨9, [1, 2], 0, 0⟩, .gates [cxG, ⟨9, [1, 2], 0, 0⟩, cxG, ⟨9, [1, 2], 0, 0⟩], .gates [cxG, ⟨9, [1, 2], 0, 0⟩, cxG, ⟨9, [1, 2], 0, 0⟩], .ints [0, 2], .gate ⟨9, [0, 2], 0, 0⟩, .gates [⟨9, [0, 2], 0, 0⟩], .gates [⟨9, [0, 2], 0, 0⟩], .rule 3 [cxG, ⟨9, [1, 2], 0, 0⟩, cxG, ⟨9, [1, 2], 0, 0⟩] [⟨9, [0, 2], 0, 0⟩] 0].getD j .any))) (WG w w5.heap.size) (fun j v w w' h hb => RK.below h hb) (fun w w' h hb => h.below hb) HGW.out ?step ?fin
    case step =>
      intro i o a' W ho hin hlook hG
      have hi := (Array.getElem?_eq_some_iff.1 ho).1
      simp only [List.size_toArray, List.length_cons, List.length_nil, Nat.reduceAdd] at hi
      rcases (show i = 0 ∨ i = 1 ∨ i = 2 ∨ i = 3 ∨ i = 4 ∨ i = 5 ∨ i = 6 ∨ i = 7 ∨ i = 8 ∨ i = 9 ∨ i = 10 ∨ i = 11 ∨ i = 12 by omega) with rfl | rfl | rfl | rfl | rfl | rfl | rfl | rfl | rfl | rfl | rfl | rfl | rfl
      · obtain rfl := Option.some.inj ho
        have e0 := look_old hlook 3 (by kernel_rfl)
        exact ⟨rfl, mrC 3 _ cxG rfl e0 hG.2.1⟩
      · obtain rfl := Option.some.inj ho
        exact ⟨rfl, mrA2 hG.1 1 2 rfl⟩
      · obtain rfl := Option.some.inj ho
        obtain ⟨v0, e0, r0⟩ := look_val hlook 1 140 (by kernel_rfl) (show 140 < 196 from by decide)
        exact ⟨rfl, mrB 9 140 [1, 2] rfl e0 r0⟩
      · obtain rfl := Option.some.inj ho
        have e0 := look_old hlook 3 (by kernel_rfl)
        exact ⟨rfl, mrC 3 _ cxG rfl e0 hG.2.1⟩
      · obtain rfl := Option.some.inj ho
        exact ⟨rfl, mrA2 hG.1 1 2 rfl⟩
      · obtain rfl := Option.some.inj ho
        obtain ⟨v0, e0, r0⟩ := look_val hlook 4 143 (by kernel_rfl) (show 143 < 196 from by decide)
        exact ⟨rfl, mrB 9 143 [1, 2] rfl e0 r0⟩
      · obtain rfl := Option.some.inj ho
        obtain ⟨v0, e0, r0⟩ := look_val hlook 0 139 (by kernel_rfl) (show 139 < 196 from by decide)
        obtain ⟨v1, e1, r1⟩ := look_val hlook 2 141 (by kernel_rfl) (show 141 < 196 from by decide)
        obtain ⟨v2, e2, r2⟩ := look_val hlook 3 142 (by kernel_rfl) (show 142 < 196 from by decide)
        obtain ⟨v3, e3, r3⟩ := look_val hlook 5 144 (by kernel_rfl) (show 144 < 196 from by decide)
        exact ⟨rfl, mrD4 139 141 142 144 cxG (⟨9, [1, 2], 0, 0⟩ : G) cxG (⟨9, [1, 2], 0, 0⟩ : G) hG.1 rfl e0 e1 e2 e3 r0 r1 r2 r3⟩
      · obtain rfl := Option.some.inj ho
        obtain ⟨v0, e0, r0⟩ := look_val hlook 6 145 (by kernel_rfl) (show 145 < 196 from by decide)
        exact ⟨rfl, mrE 145 [cxG, ⟨9, [1, 2], 0, 0⟩, cxG, ⟨9, [1, 2], 0, 0⟩] rfl e0 r0⟩
      · obtain rfl := Option.some.inj ho
        exact ⟨rfl, mrA2 hG.1 0 2 rfl⟩
      · obtain rfl := Option.some.inj ho
        obtain ⟨v0, e0, r0⟩ := look_val hlook 8 147 (by kernel_rfl) (show 147 < 196 from by decide)
        exact ⟨rfl, mrB 9 147 [0, 2] rfl e0 r0⟩
      · obtain rfl := Option.some.inj ho
        obtain ⟨v0, e0, r0⟩ := look_val hlook 9 148 (by kernel_rfl) (show 148 < 196 from by decide)
        exact ⟨rfl, mrD1 148 (⟨9, [0, 2], 0, 0⟩ : G) hG.1 rfl e0 r0⟩
      · obtain rfl := Option.some.inj ho
        obtain ⟨v0, e0, r0⟩ := look_val hlook 10 149 (by kernel_rfl) (show 149 < 196 from by decide)
        exact ⟨rfl, mrE 149 [⟨9, [0, 2], 0, 0⟩] rfl e0 r0⟩
      · obtain rfl := Option.some.inj ho
        obtain ⟨v0, e0, r0⟩ := look_val hlook 7 146 (by kernel_rfl) (show 146 < 196 from by decide)
        obtain ⟨v1, e1, r1⟩ := look_val hlook 11 150 (by kernel_rfl) (show 150 < 196 from by decide)
        exact ⟨rfl, mrF 3 0 146 150 [cxG, ⟨9, [1, 2], 0, 0⟩, cxG, ⟨9, [1, 2], 0, 0⟩] [⟨9, [0, 2], 0, 0⟩] rfl e0 e1 r0 r1⟩
    case fin =>
      intro a' W hdf hlook hG
      obtain ⟨v0, e0, r0⟩ := look_val hlook 12 151 (by kernel_rfl) (show 151 < 196 from by decide)
      have e1 := look_old hlook 2 (by kernel_rfl)
      refine ⟨_, rfl, rfl, mrS (n := w.heap.size + 1) (m := 3) (ph := 0) (l := [cxG, ⟨9, [1, 2], 0, 0⟩, cxG, ⟨9, [1, 2], 0, 0⟩]) (r := [⟨9, [0, 2], 0, 0⟩]) 151 rfl e1 e0 r0 hG.2.2.2.2.2.1 ?_⟩
      intro A1 c1 A2 c2 k1 k2 r1 r2
      show Exit.then _ _ Exit.normal a' _
      have HK := Lib.hid (And.intro hG (And.intro k1 (And.intro k2 (And.intro r1 (And.intro r2 (show a'.tmps.getD 2 undef = .pointer (some ⟨w.heap.size, 0, none⟩) from e1))))))
      clear hG k1 k2 r1 r2 e1 e0 r0 hlook
      go_wp2
      have hl : ruleL 40 = [cxG, ⟨9, [1, 2], 0, 0⟩, cxG, ⟨9, [1, 2], 0, 0⟩] := by decide
      have hr : ruleR 40 = [⟨9, [0, 2], 0, 0⟩] := by decide
      have hw : ruleW 40 = 3 := by decide
      have hp : ruleP 40 = 0 := by decide
      exact z24t0
  · skip -- rule 42
    go_wp2
    refine wp_region_mr (by kernel_rfl) 34 (by kernel_rfl) (by kernel_rfl) (by simp) (by kernel_rfl) (fun j => (RK.say (w.heap.size + 1) ([.gate ccG, .gates [ccG], .gates [ccG], .ints [2], .gate ⟨4, [2], 0, 0⟩, .ints [1, 2], .gate ⟨9, [1, 2], 0, 0⟩, .ints [2], .gate ⟨8, [2], 0, 0⟩, .ints [0, 2], .gate ⟨9, [0, 2], 0, 0⟩, .ints [2], .gate ⟨7, [2], 0, 0⟩, .ints [1, 2], .gate ⟨9, [1, 2], 0, 0⟩, .ints [2], .gate ⟨8, [2], 0, 0⟩, .ints [0, 2], .gate ⟨9, [0, 2], 0, 0⟩, .ints [1], .gate ⟨7, [1], 0, 0⟩, .ints [2], .gate ⟨7, [2], 0, 0⟩, .ints [2], .gate ⟨4, [2], 0, 0⟩, .gate cxG, .ints [0], .gate ⟨7, [0], 0, 0⟩, .ints [1], .gate ⟨8, [1], 0, 0⟩, .gate cxG, .gates [⟨4, [2], 0, 0⟩, ⟨9, [1, 2], 0, 0⟩, ⟨8, [2], 0, 0⟩, ⟨9, [0, 2], 0, 0⟩, ⟨7, [2], 0, 0⟩, ⟨9, [1, 2], 0, 0⟩, ⟨8, [2], 0, 0⟩, ⟨9, [0, 2], 0, 0⟩, ⟨7, [1], 0, 0⟩, ⟨7, [2], 0, 0⟩, ⟨4, [2], 0, 0⟩, cxG, ⟨7, [0], 0, 0⟩, ⟨8, [1], 0, 0⟩, cxG], .gates [⟨4, [2], 0, 0⟩, ⟨9, [1, 2], 0, 0⟩, ⟨8, [2], 0, 0⟩, ⟨9, [0, 2], 0, 0⟩, ⟨7, [2], 0, 0⟩, ⟨9, [1, 2], 0, 0⟩, ⟨8, [2], 0, 0⟩, ⟨9, [0, 2], 0, 0⟩, ⟨7, [1], 0, 0⟩, ⟨7, [2], 0, 0⟩, ⟨4, [2], 0, 0⟩, cxG, ⟨7, [0], 0, 0⟩, ⟨8, [1], 0, 0⟩, cxG], .rule 3 [ccG] [⟨4, [2], 0, 0⟩, ⟨9, [1, 2], 0, 0⟩, ⟨8, [2], 0, 0⟩, ⟨9, [0, 2], 0, 0⟩, ⟨7, [2], 0, 0⟩, ⟨9, [1, 2], 0, 0⟩, ⟨8, [2], 0, 0⟩, ⟨9, [0, 2], 0, 0⟩, ⟨7, [1], 0, 0⟩, ⟨7, [2], 0, 0⟩, ⟨4, [2], 0, 0⟩, cxG, ⟨7, [0], 0, 0⟩, ⟨8, [1], 0, 0⟩, cxG] 0].getD j .any))) (WG w w5.heap.size) (fun j v w w' h hb => RK.below h hb) (fun w w' h hb => h.below hb) HGW.out ?step ?fin
    case step =>
      intro i o a' W ho hin hlook hG
      have hi := (Array.getElem?_eq_some_iff.1 ho).1
      simp only [List.size_toArray, List.length_cons, List.length_nil, Nat.reduceAdd] at hi
      rcases (show i = 0 ∨ i = 1 ∨ i = 2 ∨ i = 3 ∨ i = 4 ∨ i = 5 ∨ i = 6 ∨ i = 7 ∨ i = 8 ∨ i = 9 ∨ i = 10 ∨ i = 11 ∨ i = 12 ∨ i = 13 ∨ i = 14 ∨ i = 15 ∨ i = 16 ∨ i = 17 ∨ i = 18 ∨ i = 19 ∨ i = 20 ∨ i = 21 ∨ i = 22 ∨ i = 23 ∨ i = 24 ∨ i = 25 ∨ i = 26 ∨ i = 27 ∨ i = 28 ∨ i = 29 ∨ i = 30 ∨ i = 31 ∨ i = 32 ∨ i = 33 by omega) with rfl | rfl | rfl | rfl | rfl | rfl | rfl | rfl | rfl | rfl | rfl | rfl | rfl | rfl | rfl | rfl | rfl | rfl | rfl | rfl | rfl | rfl | rfl | rfl | rfl | rfl | rfl | rfl | rfl | rfl | rfl | rfl | rfl | rfl
      · obtain rfl := Option.some.inj ho
        have e0 := look_old hlook 6 (by kernel_rfl)
        exact ⟨rfl, mrC 6 _ ccG rfl e0 hG.2.2.2.2.1⟩
      · obtain rfl := Option.some.inj ho
        obtain ⟨v0, e0, r0⟩ := look_val hlook 0 162 (by kernel_rfl) (show 162 < 196 from by decide)
        exact ⟨rfl, mrD1 162 ccG hG.1 rfl e0 r0⟩
      · obtain rfl := Option.some.inj ho
        obtain ⟨v0, e0, r0⟩ := look_val hlook 1 163 (by kernel_rfl) (show 163 < 196 from by decide)
        exact ⟨rfl, mrE 163 [ccG] rfl e0 r0⟩
      · obtain rfl := Option.some.inj ho
        exact ⟨rfl, mrA1 hG.1 2 rfl⟩
      · obtain rfl := Option.some.inj ho
        obtain ⟨v0, e0, r0⟩ := look_val hlook 3 165 (by kernel_rfl) (show 165 < 196 from by decide)
        exact ⟨rfl, mrB 4 165 [2] rfl e0 r0⟩
      · obtain rfl := Option.some.inj ho
        exact ⟨rfl, mrA2 hG.1 1 2 rfl⟩
      · obtain rfl := Option.some.inj ho
        obtain ⟨v0, e0, r0⟩ := look_val hlook 5 167 (by kernel_rfl) (show 167 < 196 from by decide)
        exact ⟨rfl, mrB 9 167 [1, 2] rfl e0 r0⟩
      · obtain rfl := Option.some.inj ho
        exact ⟨rfl, mrA1 hG.1 2 rfl⟩
      · obtain rfl := Option.some.inj ho
        obtain ⟨v0, e0, r0⟩ := look_val hlook 7 169 (by kernel_rfl) (show 169 < 196 from by decide)
        exact ⟨rfl, mrB 8 169 [2] rfl e0 r0⟩
      · obtain rfl := Option.some.inj ho
        exact ⟨rfl, mrA2 hG.1 0 2 rfl⟩
      · obtain rfl := Option.some.inj ho
        obtain ⟨v0, e0, r0⟩ := look_val hlook 9 171 (by kernel_rfl) (show 171 < 196 from by decide)
        exact ⟨rfl, mrB 9 171 [0, 2] rfl e0 r0⟩
      · obtain rfl := Option.some.inj ho
        exact ⟨rfl, mrA1 hG.1 2 rfl⟩
      · obtain rfl := Option.some.inj ho
        obtain ⟨v0, e0, r0⟩ := look_val hlook 11 173 (by kernel_rfl) (show 173 < 196 from by decide)
        exact ⟨rfl, mrB 7 173 [2] rfl e0 r0⟩
      · obtain rfl := Option.some.inj ho
        exact ⟨rfl, mrA2 hG.1 1 2 rfl⟩
      · obtain rfl := Option.some.inj ho
        obtain ⟨v0, e0, r0⟩ := look_val hlook 13 175 (by kernel_rfl) (show 175 < 196 from by decide)
        exact ⟨rfl, mrB 9 175 [1, 2] rfl e0 r0⟩
      · obtain rfl := Option.some.inj ho
        exact ⟨rfl, mrA1 hG.1 2 rfl⟩
      · obtain rfl := Option.some.inj ho
        obtain ⟨v0, e0, r0⟩ := look_val hlook 15 177 (by kernel_rfl) (show 177 < 196 from by decide)
        exact ⟨rfl, mrB 8 177 [2] rfl e0 r0⟩
      · obtain rfl := Option.some.inj ho
        exact ⟨rfl, mrA2 hG.1 0 2 rfl⟩
      · obtain rfl := Option.some.inj ho
        obtain ⟨v0, e0, r0⟩ := look_val hlook 17 179 (by kernel_rfl) (show 179 < 196 from by decide)
        exact ⟨rfl, mrB 9 179 [0, 2] rfl e0 r0⟩
      · obtain rfl := Option.some.inj ho
        exact ⟨rfl, mrA1 hG.1 1 rfl⟩
      · obtain rfl := Option.some.inj ho
        obtain ⟨v0, e0, r0⟩ := look_val hlook 19 181 (by kernel_rfl) (show 181 < 196 from by decide)
        exact ⟨rfl, mrB 7 181 [1] rfl e0 r0⟩
      · obtain rfl := Option.some.inj ho
        exact ⟨rfl, mrA1 hG.1 2 rfl⟩
      · obtain rfl := Option.some.inj ho
        obtain ⟨v0, e0, r0⟩ := look_val hlook 21 183 (by kernel_rfl) (show 183 < 196 from by decide)
        exact ⟨rfl, mrB 7 183 [2] rfl e0 r0⟩
      · obtain rfl := Option.some.inj ho
        exact ⟨rfl, mrA1 hG.1 2 rfl⟩
      · obtain rfl := Option.some.inj ho
        obtain ⟨v0, e0, r0⟩ := look_val hlook 23 185 (by kernel_rfl) (show 185 < 196 from by decide)
        exact ⟨rfl, mrB 4 185 [2] rfl e0 r0⟩
      · obtain rfl := Option.some.inj ho
        have e0 := look_old hlook 3 (by kernel_rfl)
        exact ⟨rfl, mrC 3 _ cxG rfl e0 hG.2.1⟩
      · obtain rfl := Option.some.inj ho
        exact ⟨rfl, mrA1 hG.1 0 rfl⟩
      · obtain rfl := Option.some.inj ho
        obtain ⟨v0, e0, r0⟩ := look_val hlook 26 188 (by kernel_rfl) (show 188 < 196 from by decide)
        exact ⟨rfl, mrB 7 188 [0] rfl e0 r0⟩
      · obtain rfl := Option.some.inj ho
        exact ⟨rfl, mrA1 hG.1 1 rfl⟩
      · obtain rfl := Option.some.inj ho
        obtain ⟨v0, e0, r0⟩ := look_val hlook 28 190 (by kernel_rfl) (show 190 < 196 from by decide)
        exact ⟨rfl, mrB 8 190 [1] rfl e0 r0⟩
      · obtain rfl := Option.some.inj ho
        have e0 := look_old hlook 3 (by kernel_rfl)
        exact ⟨rfl, mrC 3 _ cxG rfl e0 hG.2.1⟩
      · obtain rfl := Option.some.inj ho
        obtain ⟨v0, e0, r0⟩ := look_val hlook 4 166 (by kernel_rfl) (show 166 < 196 from by decide)
        obtain ⟨v1, e1, r1⟩ := look_val hlook 6 168 (by kernel_rfl) (show 168 < 196 from by decide)
        obtain ⟨v2, e2, r2⟩ := look_val hlook 8 170 (by kernel_rfl) (show 170 < 196 from by decide)
        obtain ⟨v3, e3, r3⟩ := look_val hlook 10 172 (by kernel_rfl) (show 172 < 196 from by decide)
        obtain ⟨v4, e4, r4⟩ := look_val hlook 12 174 (by kernel_rfl) (show 174 < 196 from by decide)
        obtain ⟨v5, e5, r5⟩ := look_val hlook 14 176 (by kernel_rfl) (show 176 < 196 from by decide)
        obtain ⟨v6, e6, r6⟩ := look_val hlook 16 178 (by kernel_rfl) (show 178 < 196 from by decide)
        obtain ⟨v7, e7, r7⟩ := look_val hlook 18 180 (by kernel_rfl) (show 180 < 196 from by decide)
        obtain ⟨v8, e8, r8⟩ := look_val hlook 20 182 (by kernel_rfl) (show 182 < 196 from by decide)
        obtain ⟨v9, e9, r9⟩ := look_val hlook 22 184 (by kernel_rfl) (show 184 < 196 from by decide)
        obtain ⟨v10, e10, r10⟩ := look_val hlook 24 186 (by kernel_rfl) (show 186 < 196 from by decide)
        obtain ⟨v11, e11, r11⟩ := look_val hlook 25 187 (by kernel_rfl) (show 187 < 196 from by decide)
        obtain ⟨v12, e12, r12⟩ := look_val hlook 27 189 (by kernel_rfl) (show 189 < 196 from by decide)
        obtain ⟨v13, e13, r13⟩ := look_val hlook 29 191 (by kernel_rfl) (show 191 < 196 from by decide)
        obtain ⟨v14, e14, r14⟩ := look_val hlook 30 192 (by kernel_rfl) (show 192 < 196 from by decide)
        exact ⟨rfl, mrD15 166 168 170 172 174 176 178 180 182 184 186 187 189 191 192 (⟨4, [2], 0, 0⟩ : G) (⟨9, [1, 2], 0, 0⟩ : G) (⟨8, [2], 0, 0⟩ : G) (⟨9, [0, 2], 0, 0⟩ : G) (⟨7, [2], 0, 0⟩ : G) (⟨9, [1, 2], 0, 0⟩ : G) (⟨8, [2], 0, 0⟩ : G) (⟨9, [0, 2], 0, 0⟩ : G) (⟨7, [1], 0, 0⟩ : G) (⟨7, [2], 0, 0⟩ : G) (⟨4, [2], 0, 0⟩ : G) cxG (⟨7, [0], 0, 0⟩ : G) (⟨8, [1], 0, 0⟩ : G) cxG hG.1 rfl e0 e1 e2 e3 e4 e5 e6 e7 e8 e9 e10 e11 e12 e13 e14 r0 r1 r2 r3 r4 r5 r6 r7 r8 r9 r10 r11 r12 r13 r14⟩
      · obtain rfl := Option.some.inj ho
        obtain ⟨v0, e0, r0⟩ := look_val hlook 31 193 (by kernel_rfl) (show 193 < 196 from by decide)
        exact ⟨rfl, mrE 193 [⟨4, [2], 0, 0⟩, ⟨9, [1, 2], 0, 0⟩, ⟨8, [2], 0, 0⟩, ⟨9, [0, 2], 0, 0⟩, ⟨7, [2], 0, 0⟩, ⟨9, [1, 2], 0, 0⟩, ⟨8, [2], 0, 0⟩, ⟨9, [0, 2], 0, 0⟩, ⟨7, [1], 0, 0⟩, ⟨7, [2], 0, 0⟩, ⟨4, [2], 0, 0⟩, cxG, ⟨7, [0], 0, 0⟩, ⟨8, [1], 0, 0⟩, cxG] rfl e0 r0⟩
      · obtain rfl := Option.some.inj ho
        obtain ⟨v0, e0, r0⟩ := look_val hlook 2 164 (by kernel_rfl) (show 164 < 196 from by decide)
        obtain ⟨v1, e1, r1⟩ := look_val hlook 32 194 (by kernel_rfl) (show 194 < 196 from by decide)
        exact ⟨rfl, mrF 3 0 164 194 [ccG] [⟨4, [2], 0, 0⟩, ⟨9, [1, 2], 0, 0⟩, ⟨8, [2], 0, 0⟩, ⟨9, [0, 2], 0, 0⟩, ⟨7, [2], 0, 0⟩, ⟨9, [1, 2], 0, 0⟩, ⟨8, [2], 0, 0⟩, ⟨9, [0, 2], 0, 0⟩, ⟨7, [1], 0, 0⟩, ⟨7, [2], 0, 0⟩, ⟨4, [2], 0, 0⟩, cxG, ⟨7, [0], 0, 0⟩, ⟨8, [1], 0, 0⟩, cxG] rfl e0 e1 r0 r1⟩
    case fin =>
      intro a' W hdf hlook hG
      obtain ⟨v0, e0, r0⟩ := look_val hlook 33 195 (by kernel_rfl) (show 195 < 196 from by decide)
      have e1 := look_old hlook 2 (by kernel_rfl)
      refine ⟨_, rfl, rfl, mrS (n := w.heap.size + 1) (m := 3) (ph := 0) (l := [ccG]) (r := [⟨4, [2], 0, 0⟩, ⟨9, [1, 2], 0, 0⟩, ⟨8, [2], 0, 0⟩, ⟨9, [0, 2], 0, 0⟩, ⟨7, [2], 0, 0⟩, ⟨9, [1, 2], 0, 0⟩, ⟨8, [2], 0, 0⟩, ⟨9, [0, 2], 0, 0⟩, ⟨7, [1], 0, 0⟩, ⟨7, [2], 0, 0⟩, ⟨4, [2], 0, 0⟩, cxG, ⟨7, [0], 0, 0⟩, ⟨8, [1], 0, 0⟩, cxG]) 195 rfl e1 e0 r0 hG.2.2.2.2.2.1 ?_⟩
      intro A1 c1 A2 c2 k1 k2 r1 r2
      show Exit.then _ _ Exit.normal a' _
      have HK := Lib.hid (And.intro hG (And.intro k1 (And.intro k2 (And.intro r1 (And.intro r2 (show a'.tmps.getD 2 undef = .pointer (some ⟨w.heap.size, 0, none⟩) from e1))))))
      clear hG k1 k2 r1 r2 e1 e0 r0 hlook
      go_wp2
      have hl : ruleL 42 = [ccG] := by decide
      have hr : ruleR 42 = [⟨4, [2], 0, 0⟩, ⟨9, [1, 2], 0, 0⟩, ⟨8, [2], 0, 0⟩, ⟨9, [0, 2], 0, 0⟩, ⟨7, [2], 0, 0⟩, ⟨9, [1, 2], 0, 0⟩, ⟨8, [2], 0, 0⟩, ⟨9, [0, 2], 0, 0⟩, ⟨7, [1], 0, 0⟩, ⟨7, [2], 0, 0⟩, ⟨4, [2], 0, 0⟩, cxG, ⟨7, [0], 0, 0⟩, ⟨8, [1], 0, 0⟩, cxG] := by decide
      have hw : ruleW 42 = 3 := by decide
      have hp : ruleP 42 = 0 := by decide
      exact z24t0
end Go.Proofs.YtfommmijojfdbaaGreatDoor
