/- Part 33 of the proof that 'spoondriftlaw19.RulesApplies' holds for every input; it has no condition beyond the statement's own. -/
import Derived.Test.YtfommmijojfdbaaGreatDoorZ30
import Derived.Test.YtfommmijojfdbaaGreatDoorZ01
import Derived.Test.YtfommmijojfdbaaGreatDoorZ31
import Derived.Test.YtfommmijojfdbaaGreatDoorZ17
set_option linter.all false
namespace Go.Proofs.YtfommmijojfdbaaGreatDoor
open Go.RowKit Go.Shelf
attribute [local go_sem] Oper.semAt_some
def RpS (Bm : Nat) (W : World) (x : M × C) (args : Array Value) : Prop :=
  ∃ v1 v2, args = #[.agg #[.int .i64 x.1.rule, .int .i64 x.1.at_, .bool x.1.back, v1], .agg #[.int .i64 x.2.wires, .int .i64 x.2.bits, v2]] ∧ App EI 3 1 Bm W v1 x.1.wires ∧ Own 3 55 Bm W v2 x.2.gates
def ChB (nb by_ br bm bc l : Nat) (c : C) (A : Option Addr) (kc i : Nat) (back : Bool) (vL vR fv : Value) (W : World) : Prop :=
  W.heap[nb]? = some (.cells #[.int .i64 c.wires, .int .i64 c.bits, .slice A c.gates.length kc] 93 (0, 0)) ∧
  W.heap[nb + 1]? = some (.cells #[.int .i64 i] 3 (0, 0)) ∧
  W.heap[nb + 2]? = some (.cells #[.bool back] 4 (0, 0)) ∧
  W.heap[by_]? = some (.cells #[.func (.yield l) #[] #[]] 152 (0, 0)) ∧
  W.heap[br]? = some (.cells #[vL, vR, .int .i64 (ruleW i), .int .i64 (ruleP i), fv] 88 (0, 0)) ∧
  W.heap[bc]? = some (.cells #[.func (.func 116) #[] #[.pointer (some ⟨bm, 0, none⟩), .pointer (some ⟨br, 0, none⟩), .pointer (some ⟨nb + 1, 0, none⟩), .pointer (some ⟨nb + 2, 0, none⟩), .pointer (some ⟨nb, 0, none⟩), .pointer (some ⟨by_, 0, none⟩), .pointer (some ⟨bc, 0, none⟩)]] 155 (0, 0))
theorem ChB.below {nb by_ br bm bc l : Nat} {c : C} {A : Option Addr} {kc i : Nat} {back : Bool} {vL vR fv : Value} {W W' : World} (h : ChB nb by_ br bm bc l c A kc i back vL vR fv W) (hb : Below W.heap.size W W') : ChB nb by_ br bm bc l c A kc i back vL vR fv W' :=
  ⟨blk2 hb h.1, blk2 hb h.2.1, blk2 hb h.2.2.1, blk2 hb h.2.2.2.1, blk2 hb h.2.2.2.2.1, blk2 hb h.2.2.2.2.2⟩
theorem ChB.keep {nb by_ br bm bc l n0 : Nat} {c : C} {A : Option Addr} {kc i : Nat} {back : Bool} {vL vR fv : Value} {W W' : World} (h : ChB nb by_ br bm bc l c A kc i back vL vR fv W) (hk : Keep (ex1 nb) n0 W W') : ChB nb by_ br bm bc l c A kc i back vL vR fv W' :=
  ⟨hk.2 _ _ _ _ h.1 (ex1_of _ _ (by unfold Lax; decide) (by decide)), hk.2 _ _ _ _ h.2.1 (ex1_of _ _ (by unfold Lax; decide) (by decide)),
   hk.2 _ _ _ _ h.2.2.1 (fun e => e.elim (by unfold Lax; decide) (fun e => by omega)), hk.2 _ _ _ _ h.2.2.2.1 (ex1_of _ _ (by unfold Lax; decide) (by decide)),
   hk.2 _ _ _ _ h.2.2.2.2.1 (ex1_of _ _ (by unfold Lax; decide) (by decide)), hk.2 _ _ _ _ h.2.2.2.2.2 (ex1_of _ _ (by unfold Lax; decide) (by decide))⟩
theorem ChB.flag {nb by_ br bm bc l : Nat} {c : C} {A : Option Addr} {kc i : Nat} {back : Bool} {vL vR fv u : Value} {W : World} (h : ChB nb by_ br bm bc l c A kc i back vL vR fv W) (ho : nb + 3 ≤ by_ ∧ by_ < br ∧ br < bm ∧ bm < bc) : ChB nb by_ br bm bc l c A kc i back vL vR fv (W.setCell ⟨bm, 0, none⟩ u) := by
  obtain ⟨h1, h2, h3, h4, h5, h6⟩ := h
  refine ⟨?_, ?_, ?_, ?_, ?_, ?_⟩
  all_goals rw [heap_setCell_other _ _ _ _ (by simp; omega)]
  all_goals assumption
def Mo (bm : Nat) (J Jx : List (M × C) → World → Prop) (pre : List (M × C)) (W : World) : Prop :=
  (W.heap[bm]? = some (.cells #[.bool true] 4 (0, 0)) ∧ J pre W) ∨ (W.heap[bm]? = some (.cells #[.bool false] 4 (0, 0)) ∧ ∃ p, p <+: pre ∧ Jx p W)
theorem Mo.below {bm L : Nat} {J Jx : List (M × C) → World → Prop} {pre : List (M × C)} {W W' : World} (h : Mo bm J Jx pre W) (hJ : Abide L J) (hJx : Abide L Jx) (hb : Below W.heap.size W W') : Mo bm J Jx pre W' := by
  rcases h with ⟨h1, h2⟩ | ⟨h1, p, h2, h3⟩
  · exact .inl ⟨blk2 hb h1, hJ.below h2 hb⟩
  · exact .inr ⟨blk2 hb h1, p, h2, hJx.below h3 hb⟩
theorem Mo.more {bm : Nat} {J Jx : List (M × C) → World → Prop} {pre L : List (M × C)} {W : World} (h : W.heap[bm]? = some (.cells #[.bool false] 4 (0, 0)) ∧ ∃ p, p <+: pre ∧ Jx p W) : Mo bm J Jx (pre ++ L) W :=
  .inr ⟨h.1, h.2.choose, h.2.choose_spec.1.trans (List.prefix_append _ _), h.2.choose_spec.2⟩
def ChR (n0 nb by_ br bm bc l : Nat) (c : C) (A : Option Addr) (kc i : Nat) (back : Bool) (vL vR fv : Value) (J Jx : List (M × C) → World → Prop) (out : List (M × C)) (W : World) (e : Ending) (W' : World) : Prop :=
  (∃ v, e = .returned v) ∧ ChB nb by_ br bm bc l c A kc i back vL vR fv W' ∧ Keep ex2 n0 W W' ∧ Mo bm J Jx out W'
set_option maxRecDepth 100000 in
set_option maxHeartbeats 4000000 in
theorem choose_no (n0 nb by_ br bm bc l : Nat) (c : C) (A : Option Addr) (kc i : Nat) (back : Bool) (vL vR fv : Value) (J Jx : List (M × C) → World → Prop) (at_ k : Nat) (b0 b1 b2 : Int) (pre L : List (M × C)) (W : World)
    (hJx : Abide by_ Jx) (hB : ChB nb by_ br bm bc l c A kc i back vL vR fv W) (hn : n0 ≤ W.heap.size) (hm : W.heap[bm]? = some (.cells #[.bool false] 4 (0, 0)) ∧ ∃ p, p <+: pre ∧ Jx p W) :
    Calls Tryz.prog 116 #[.int .i64 at_, .int .i64 k, .agg #[.int .i64 b0, .int .i64 b1, .int .i64 b2], .pointer (some ⟨bm, 0, none⟩), .pointer (some ⟨br, 0, none⟩), .pointer (some ⟨nb + 1, 0, none⟩), .pointer (some ⟨nb + 2, 0, none⟩), .pointer (some ⟨nb, 0, none⟩), .pointer (some ⟨by_, 0, none⟩), .pointer (some ⟨bc, 0, none⟩)] W (ChR n0 nb by_ br bm bc l c A kc i back vL vR fv J Jx (pre ++ L) W) := by
  have hc := Boxed.cell hm.1
  have hlt := blk_lt hm.1
  have hb := below_alloc (Below.refl W.heap.size W) (.cells #[.int .i64 b0, .int .i64 b1, .int .i64 b2] 157)
  have HH := Lib.hid (show ChR n0 nb by_ br bm bc l c A kc i back vL vR fv J Jx (pre ++ L) W (.returned undef) (W.alloc (.cells #[.int .i64 b0, .int .i64 b1, .int .i64 b2] 157)) from
    ⟨⟨_, rfl⟩, hB.below hb, Keep.of_below hb hn, Mo.more ⟨blk2 hb hm.1, hm.2.choose, hm.2.choose_spec.1, hJx.below hm.2.choose_spec.2 hb⟩⟩)
  clear hB hm hb
  go_enter Tryz.func116, Tryz.ntmps116
  go_wp2
  go_end0
  exact ⟨⟨_, rfl⟩, HH.out.2⟩
end Go.Proofs.YtfommmijojfdbaaGreatDoor
namespace Go.Proofs.YtfommmijojfdbaaGreatDoor
open Go.RowKit
set_option maxRecDepth 1000000 in
set_option maxHeartbeats 8000000 in
theorem rApply_any (A B : Option Addr) (k d : Nat) (c : C) (s : M) (w : World) (h : RdG w A c.gates) (hk : c.gates.length ≤ k) (h' : RdI w B s.wires) (hd : s.wires.length ≤ d) :
    Calls Tryz.prog 18 #[.agg #[.int .i64 c.wires, .int .i64 c.bits, .slice A c.gates.length k], .agg #[.int .i64 s.rule, .int .i64 s.at_, .bool s.back, .slice B s.wires.length d]] w (RetF (ApplyR c s) w) := by
  have HH := Lib.hid (And.intro h h')
  clear h h'
  go_enter Tryz.func18, Tryz.ntmps18
  go_upto_region 1 with fail
  obtain ⟨W1, hW1⟩ : ∃ W1, ((w.alloc (.cells #[.int .i64 c.wires, .int .i64 c.bits, .slice A c.gates.length k] 24)).alloc (.cells #[.int .i64 s.rule, .int .i64 s.at_, .bool s.back, .slice B s.wires.length d] 27)).alloc (.cells #[.int .i64 0, .int .i64 0, .slice none 0 0] 24) = W1 := ⟨_, rfl⟩
  have hb01 : Below w.heap.size w W1 := by rw [← hW1]; (repeat (first|exact bR _ _|assumption|apply bN|apply bA|apply bD))
  have p0 : W1.heap[w.heap.size]? = some (.cells #[.int .i64 c.wires, .int .i64 c.bits, .slice A c.gates.length k] 24) := by rw [← hW1]; exact alloc_old (alloc_old (blk_alloc _ _ _ rfl))
  have p1 : W1.heap[w.heap.size + 1]? = some (.cells #[.int .i64 s.rule, .int .i64 s.at_, .bool s.back, .slice B s.wires.length d] 27) := by rw [← hW1]; exact alloc_old (blk_alloc _ _ _ (by simp))
  have p2 : W1.heap[w.heap.size + 1 + 1]? = some (.cells #[.int .i64 0, .int .i64 0, .slice none 0 0] 24) := by rw [← hW1]; exact blk_alloc _ _ _ (by simp)
  rw [hW1]
  clear hW1
  obtain ⟨a0, a1, a2, af⟩ := cells3 p0
  have hp := rPlain19_any A k c W1 (HH.out.1.bG hb01) hk
  go_wp2_with fail
  refine hp.mono ?_
  clear hp
  rintro e w2 ⟨rfl, hb⟩
  have hb0 := hb01.trans (hb.mono hb01.size)
  clear hb01 a0 a1 a2 af
  replace p0 := blk2 hb p0
  replace p1 := blk2 hb p1
  replace p2 := blk2 hb p2
  obtain ⟨a0, a1, a2, af⟩ := cells3 p0
  obtain ⟨b0, b1, b2, b3, bf⟩ := cells4 p1
  obtain ⟨r0, r1, r2, rf⟩ := cells3 p2
  clear hb
  by_cases hG : plainE c = 0
  · have ha := rDone_any A B k d c s w2 (HH.out.1.bG hb0) hk (HH.out.2.bI hb0) hd (plainE_good.1 hG)
    have hbn : w.heap.size ≤ w2.heap.size := hb0.size
    obtain ⟨⟨er, cc, ph⟩, hx⟩ : ∃ x, applyR c s = x := ⟨_, rfl⟩
    have HXX := Lib.hid (show ApplyR c s = (er, cc, ph) by unfold ApplyR; rw [if_pos hG, hx])
    rw [hx] at ha
    rw [hG]
    clear hx hG
    dsimp only
    go_wp2_with fail
    refine ha.mono ?_
    clear ha
    rintro e w9 ⟨A9, c9, rfl, hc9, hrf, hb⟩
    have hlt2 := blk_lt p2
    replace p2 := blk2 hb p2
    clear r0 r1 r2 rf
    obtain ⟨r0, r1, r2, rf⟩ := cells3 p2
    have HO := Lib.hid (And.intro p2 (And.intro (RdF.set3 (n' := w.heap.size) (b := w.heap.size + 1 + 1) hrf hbn hlt2) (hb0.trans (hb.mono hb0.size))))
    have HC := Lib.hid hc9
    clear hrf hc9 hb hb0 hlt2 hbn
    dsimp only
    go_wp2
    rw [HXX.out]
    exact bodyPost_ret (results_list (rs := [.cell 4 24, .tmp 5, .tmp 6]) rfl (by simp) (.cell (w.heap.size + 1 + 1) 24 _ _ _ rfl (set3 HO.out.1) Tryz.underlying24 rfl (by kernel_rfl) (.tmp (.tmp .nil)))) rfl
      ⟨A9, c9, rfl, HC.out, HO.out.2.1 _ _ _, ((HO.out.2.2.setCell (by simp; omega) _).setCell (by simp; omega) _).setCell (by simp; omega) _⟩
  · have hne : (plainE c == 0) = false := by simpa using hG
    have hne2 : (plainE c != 0) = true := by simpa using hG
    have HP := Lib.hid (And.intro p2 hb0)
    have HXX := Lib.hid (show ApplyR c s = (plainE c, zeroC, 0) by unfold ApplyR; rw [if_neg hG])
    obtain ⟨q, hq⟩ : ∃ q, plainE c = q := ⟨_, rfl⟩
    rw [hq] at hne hne2 HXX ⊢
    clear hq hG
    go_wp2
    rw [HXX.out]
    exact bodyPost_ret (results_list (rs := [.cell 4 24, .tmp 5, .tmp 6]) rfl (by simp) (.cell (w.heap.size + 1 + 1) 24 _ _ _ rfl (set3 HP.out.1) Tryz.underlying24 rfl (by kernel_rfl) (.tmp (.tmp .nil)))) rfl
      ⟨_, _, rfl, Nat.le_refl _, RdF.nil _ _, ((HP.out.2.setCell (by simp; omega) _).setCell (by simp; omega) _).setCell (by simp; omega) _⟩
end Go.Proofs.YtfommmijojfdbaaGreatDoor
namespace Go.Proofs.YtfommmijojfdbaaGreatDoor
open Go.RowKit Go.Shelf
attribute [local go_sem] Oper.semAt_some
theorem Clone_n (A : Option Addr) (n c : Nat) (xs : List Int) (w : World) (h : RdI w A xs) (hn : xs.length = n) (hb : n ≤ 1000000) :
    Calls Tryz.prog 58 #[.slice A n c] w fun e w' => ∃ v, e = .returned v ∧ App EI 3 1 w.heap.size w' v xs ∧ Below w.heap.size w w' := by
  subst hn
  exact Clone_any A c xs w h hb
theorem App.setT4 {T sz B : Nat} {w : World} {v : Value} {xs : List Int} (h : App EI T sz B w v xs) {b : Nat} {x0 x1 x2 x3 u0 u1 u2 u3 : Value} {T' : TypeId} (hb : w.heap[b]? = some (.cells #[x0, x1, x2, x3] T' (0, 0))) (hT : T ≠ T') :
    App EI T sz B ((((w.setCell ⟨b, 0, none⟩ u0).setCell ⟨b, 1, none⟩ u1).setCell ⟨b, 2, none⟩ u2).setCell ⟨b, 3, none⟩ u3) v xs := by
  have b1 : (w.setCell ⟨b, 0, none⟩ u0).heap[b]? = some (.cells #[u0, x1, x2, x3] T' (0, 0)) := heap_setCell_same _ _ 0 _ _ _ hb
  have b2 : ((w.setCell ⟨b, 0, none⟩ u0).setCell ⟨b, 1, none⟩ u1).heap[b]? = some (.cells #[u0, u1, x2, x3] T' (0, 0)) := heap_setCell_same _ _ 1 _ _ _ b1
  have b3 : (((w.setCell ⟨b, 0, none⟩ u0).setCell ⟨b, 1, none⟩ u1).setCell ⟨b, 2, none⟩ u2).heap[b]? = some (.cells #[u0, u1, u2, x3] T' (0, 0)) := heap_setCell_same _ _ 2 _ _ _ b2
  exact App.setT (a := ⟨b, 3, none⟩) (App.setT (a := ⟨b, 2, none⟩) (App.setT (a := ⟨b, 1, none⟩) (App.setT (a := ⟨b, 0, none⟩) h hb hT fun _ _ h => h) b1 hT fun _ _ h => h) b2 hT fun _ _ h => h) b3 hT fun _ _ h => h
theorem chooseL_zero (c : C) (i : Nat) (back : Bool) (at_ k : Nat) (b : List Int) : chooseL c i back at_ 0 k b = if (stepR c ⟨i, at_, back, b.take k⟩).1 = 0 then [(⟨i, at_, back, b.take k⟩, (stepR c ⟨i, at_, back, b.take k⟩).2.1)] else [] := rfl
theorem chooseL_succ (c : C) (i : Nat) (back : Bool) (at_ f k : Nat) (b : List Int) : chooseL c i back at_ (f + 1) k b = if 0 ≤ b.getD k 0 then chooseL c i back at_ f (k + 1) b else (List.range c.wires.toNat).flatMap fun (w : Nat) => if (w : Int) ∈ b then [] else chooseL c i back at_ f (k + 1) (b.set k (w : Int)) := rfl
def AsksY (n0 nb Bm l : Nat) (xs : List (M × C)) (J Jx : List (M × C) → World → Prop) : Prop :=
  ∀ pre x args W1, J pre W1 → pre ++ [x] <+: xs → RpS Bm W1 x args → YieldAt Fence.wide 0 Tryz.prog l args W1 fun e W' =>
    (e = .returned (.bool true) ∧ J (pre ++ [x]) W' ∧ Keep (ex1 nb) n0 W1 W') ∨ (e = .returned (.bool false) ∧ Jx (pre ++ [x]) W' ∧ Keep (ex1 nb) n0 W1 W')
set_option maxRecDepth 1000000 in
set_option maxHeartbeats 8000000 in
/-- All wires are chosen: the step is tried, and yielded. -/
theorem choose_last (n0 nb by_ br bm bc l Bm : Nat) (c : C) (A : Option Addr) (kc i : Nat) (back : Bool) (vL vR fv : Value) (xs : List (M × C)) (J Jx : List (M × C) → World → Prop) (at_ k : Nat) (b0 b1 b2 : Int) (pre : List (M × C)) (W : World)
    (hi : i < 44) (hf : fitB i back = true) (hG : Good c) (hat : at_ ≤ c.gates.length) (hkc : c.gates.length ≤ kc) (ho : nb + 3 ≤ by_ ∧ by_ < br ∧ br < bm ∧ bm < bc) (hn0 : n0 ≤ nb) (hBm : Bm ≤ by_)
    (hJ : Abide by_ J) (hJx : Abide by_ Jx) (hY : AsksY n0 nb Bm l xs J Jx)
    (hk : (k : Int) = ruleW i) (hb : BOk c [b0, b1, b2]) (hp : ∀ x ∈ [b0, b1, b2].take k, 0 ≤ x) (hB : ChB nb by_ br bm bc l c A kc i back vL vR fv W) (hT : ∀ W', Below W.heap.size W W' → Laid W' ∧ RdG W' A c.gates) (hbc : bc < W.heap.size)
    (hm : W.heap[bm]? = some (.cells #[.bool true] 4 (0, 0)) ∧ J pre W) (out : List (M × C)) (hout : Hid (out = pre ++ chooseL c i back at_ 0 k [b0, b1, b2])) (hpre : out <+: xs) :
    Calls Tryz.prog 116 #[.int .i64 at_, .int .i64 k, .agg #[.int .i64 b0, .int .i64 b1, .int .i64 b2], .pointer (some ⟨bm, 0, none⟩), .pointer (some ⟨br, 0, none⟩), .pointer (some ⟨nb + 1, 0, none⟩), .pointer (some ⟨nb + 2, 0, none⟩), .pointer (some ⟨nb, 0, none⟩), .pointer (some ⟨by_, 0, none⟩), .pointer (some ⟨bc, 0, none⟩)] W (ChR n0 nb by_ br bm bc l c A kc i back vL vR fv J Jx out W) := by
  have hw3 := (rule_ok i hi).2.2
  have hk3 : k ≤ 3 := by omega
  obtain ⟨ws, hws⟩ : ∃ ws, [b0, b1, b2].take k = ws := ⟨_, rfl⟩
  have hwl : ws.length = k := by rw [← hws]; simp; omega
  have HOUT := Lib.hid (show out = pre ++ if (stepR c ⟨i, at_, back, ws⟩).1 = 0 then [(⟨i, at_, back, ws⟩, (stepR c ⟨i, at_, back, ws⟩).2.1)] else [] by rw [hout.out, chooseL_zero, hws])
  clear hout
  obtain ⟨W1, hW1⟩ : ∃ W1, W.alloc (.cells #[.int .i64 b0, .int .i64 b1, .int .i64 b2] 157) = W1 := ⟨_, rfl⟩
  have hb1 : Below W.heap.size W W1 := by rw [← hW1]; (repeat (first|exact bR _ _|assumption|apply bN|apply bA|apply bD))
  have p0 : W1.heap[W.heap.size]? = some (.cells #[.int .i64 b0, .int .i64 b1, .int .i64 b2] 157 (0, 0)) := by rw [← hW1]; exact blk_alloc _ _ _ rfl
  have HM := Lib.hid (show moveE c ⟨i, at_, back, ws⟩ = 0 by
    have := moveE_chosen hi hf hat hb (by rw [show (ruleW i).toNat = k by omega]; exact hp)
    rwa [show (ruleW i).toNat = k by omega, hws] at this)
  have HRW := Lib.hid (show RdI W1 (some ⟨W.heap.size, 0, none⟩) ws from hws ▸ (row3 (W := W1) p0).take k)
  have hsz1 : W.heap.size + 1 ≤ W1.heap.size := by rw [← hW1]; simp
  have hlk : k ≤ [b0, b1, b2].length := hk3
  have HB := Lib.hid (hB.below hb1)
  have HJ := Lib.hid (hJ.below hm.2 hb1)
  have HMO := Lib.hid (blk2 hb1 hm.1)
  have HT := Lib.hid hT
  have HPRE := Lib.hid hpre
  have HY := Lib.hid hY
  have HG := Lib.hid hG
  have HB1 := Lib.hid hb1
  have HLEN := Lib.hid hwl
  have HABI := Lib.hid (And.intro hJ hJx)
  obtain ⟨g1, g2, g3, g4, g5, g6⟩ := HB.out
  have c1 := Boxed.cell HMO.out
  have e2 := Boxed.cell g2
  have e3 := Boxed.cell g3
  have e5 : W1.cell? ⟨br, 2, none⟩ = some (.int .i64 (ruleW i)) := by rw [cell_of_row _ _ 2 _ _ (0, 0) g5]; rfl
  rw [← hk] at e5
  have hk0 : (0 : Int) ≤ (k : Int) := by omega
  have hk3' : (k : Int) ≤ 3 := by omega
  have l1 := blk_lt HMO.out
  have l2 := blk_lt g2
  have l3 := blk_lt g3
  clear hB hT hm hpre hY hb hp hG hJ hJx hf p0 g1 g2 g3 g4 g5 g6 hws hwl hk hlk hb1
  go_enter Tryz.func116, Tryz.ntmps116
  go_upto_region 11 with fail
  try rw [hW1]
  clear hW1
  go_cut [13] (fun p wx => ∃ b A3 c3, p = .pointer (some ⟨b, 0, none⟩) ∧ Hid (wx.heap[b]? = some (.cells #[.int .i64 i, .int .i64 at_, .bool back, .slice A3 ws.length c3] 27 (0, 0)) ∧ App EI 3 1 W1.heap.size wx (.slice A3 ws.length c3) ws ∧ Below W1.heap.size W1 wx))
  case first =>
    refine wp_region_st (by kernel_rfl) (.op 0 (.op 1 (.op 2 (.op 3 (.op 4 (.alt true 5 (.op 6 (.alt true 7 (.alt true 8 .fin .stop) .stop)) (.alt false 7 (.alt true 5 (.op 6 (.alt true 8 .fin .stop)) .stop) .stop))))))) (by kernel_rfl) (by kernel_rfl) (by kernel_rfl) ?_
    refine ST.l (v := ?v1_11_0_1) rfl rfl rfl ?h1_11_0_1 ?r1_11_0_1
    case h1_11_0_1 => (first|(go_simp;done)|(go_simp;with_reducible rfl)|(go_simp;constructor<;>with_reducible rfl))
    simp only [Act.put, pA, pB, pC]
    refine ST.p (v := ?v1_11_1_2) rfl rfl rfl (fun W => ?h1_11_1_2) ?r1_11_1_2
    case h1_11_1_2 => (first|(go_simp;done)|(go_simp;with_reducible rfl)|(go_simp;constructor<;>with_reducible rfl))
    simp only [Act.put, pA, pB, pC]
    refine ST.l (v := ?v1_11_2_3) rfl rfl rfl ?h1_11_2_3 ?r1_11_2_3
    case h1_11_2_3 => (first|(go_simp;done)|(go_simp;with_reducible rfl)|(go_simp;constructor<;>with_reducible rfl))
    simp only [Act.put, pA, pB, pC]
    refine ST.p (v := ?v1_11_3_4) rfl rfl rfl (fun W => ?h1_11_3_4) ?r1_11_3_4
    case h1_11_3_4 => (first|(go_simp;done)|(go_simp;with_reducible rfl)|(go_simp;constructor<;>with_reducible rfl))
    simp only [Act.put, pA, pB, pC]
    refine ST.p (v := ?v1_11_4_5) rfl rfl rfl (fun W => ?h1_11_4_5) ?r1_11_4_5
    case h1_11_4_5 => (first|(go_simp;done)|(go_simp;with_reducible rfl)|(go_simp;constructor<;>with_reducible rfl))
    simp only [Act.put, pA, pB, pC]
    refine ST.c rfl rfl (by first|(go_simp;done)|(go_simp;with_reducible rfl)|(go_simp;exact ⟨⟨rfl, rfl⟩, rfl⟩)) ?c1_11_5_12 ?x1_11_5_12
    case c1_11_5_12 =>
     refine (Clone_n (some ⟨W.heap.size, 0, none⟩) k 3 ws _ (HRW.out.bI (by (repeat (first|exact bR _ _|assumption|apply bN|apply bA|apply bD)))) HLEN.out (by omega)).mono ?_
     rintro e w2 ⟨v1, rfl, hv1, hb2⟩
     obtain ⟨A3, c3, rfl, hc3⟩ := hv1.form
     have hb2' : Below W1.heap.size W1 w2 := Below.trans (show Below W1.heap.size W1 _ by (repeat (first|exact bR _ _|assumption|apply bN|apply bA|apply bD))) (hb2.mono (by first|(simp;done)|(simp;omega)|omega))
     have q1 := blk2 hb2' HMO.out
     have HB2 := Lib.hid (HB.out.below hb2')
     obtain ⟨g1, g2, g3, g4, g5, g6⟩ := HB2.out
     clear c1 e2 e3 e5
     have c1 := Boxed.cell q1
     have e2 := Boxed.cell g2
     have e3 := Boxed.cell g3
     have HV := Lib.hid (And.intro (hv1.imp (B' := W1.heap.size) (by first|(simp;done)|(simp;omega)|omega) (fun _ _ h => h)) hb2')
     have l1 := blk_lt q1
     have l2 := blk_lt g2
     have l3 := blk_lt g3
     have hold := olds w2
     clear hv1 hb2 hb2' q1 g1 g2 g3 g4 g5 g6
     refine ⟨_, rfl, ?_, ?_⟩
     · exact ⟨(fun _ => ⟨_, drop_at rfl, by (first|(go_simp;done)|(go_simp;with_reducible rfl))⟩), (fun _ => ⟨_, drop_at rfl, by (first|(go_simp;done)|(go_simp;with_reducible rfl))⟩), trivial⟩
     simp only [Act.put, pA, pB, pC]
     refine ST.p (v := ?v1_11_6_6) rfl rfl rfl (fun W => ?h1_11_6_6) ?r1_11_6_6
     case h1_11_6_6 => (first|(go_simp;done)|(go_simp;with_reducible rfl)|(go_simp;constructor<;>with_reducible rfl))
     simp only [Act.put, pA, pB, pC]
     refine ST.v (v := ?v1_11_7_8) (w' := ?w1_11_7_8) rfl rfl ?h1_11_7_8 ?s1_11_7_8 ?r1_11_7_8 ?x1_11_7_8
     case h1_11_7_8 => (first|(go_simp;done)|(go_simp;with_reducible rfl)|(go_simp;constructor<;>with_reducible rfl))
     case s1_11_7_8 => exact ⟨(fun _ => ⟨_, drop_at rfl, by (first|(go_simp;done)|(go_simp;with_reducible rfl))⟩), (fun _ => ⟨_, drop_at rfl, by (first|(go_simp;done)|(go_simp;with_reducible rfl))⟩), trivial⟩
     case x1_11_7_8 => exact ST.stop
     simp only [Act.put, pA, pB, pC]
     refine ST.k (w' := ?w1_11_8_7) rfl rfl ?h1_11_8_7 ?s1_11_8_7 ?r1_11_8_7 ?x1_11_8_7
     case h1_11_8_7 => (first|(go_simp;done)|(go_simp;with_reducible rfl)|(go_simp;constructor<;>with_reducible rfl))
     case s1_11_8_7 => exact ⟨(nw (by kernel_rfl)), (nw (by kernel_rfl)), trivial⟩
     case x1_11_8_7 => exact ST.stop
     simp only [Act.put, pA, pB, pC]
     simp only [ST]
     go_wp2
     go_meet
     have hsz := HV.out
     exact ⟨_, A3, c3, rfl, Lib.hid ⟨blk_alloc _ _ _ rfl, (HV.out.1.below EI.stays (below_alloc (Below.refl _ _) _)), below_alloc HV.out.2 _⟩⟩
    case' x1_11_5_12 => skip
    refine ST.v (v := ?v1_11_7_13) (w' := ?w1_11_7_13) rfl rfl ?h1_11_7_13 ?s1_11_7_13 ?r1_11_7_13 ?x1_11_7_13
    case h1_11_7_13 => (first|(go_simp;done)|(go_simp;with_reducible rfl)|(go_simp;constructor<;>with_reducible rfl))
    case s1_11_7_13 => exact ⟨(fun _ => ⟨_, drop_at rfl, by (first|(go_simp;done)|(go_simp;with_reducible rfl))⟩), (fun _ => ⟨_, drop_at rfl, by (first|(go_simp;done)|(go_simp;with_reducible rfl))⟩), trivial⟩
    case r1_11_7_13 =>
     simp only [Act.put, pA, pB, pC]
     refine ST.c rfl rfl (by first|(go_simp;done)|(go_simp;with_reducible rfl)|(go_simp;exact ⟨⟨rfl, rfl⟩, rfl⟩)) ?c1_11_5_11 ?x1_11_5_11
     case x1_11_5_11 => exact ST.stop
     refine (Clone_n (some ⟨W.heap.size, 0, none⟩) k 3 ws _ (HRW.out.bI (by (repeat (first|exact bR _ _|assumption|apply bN|apply bA|apply bD)))) HLEN.out (by omega)).mono ?_
     rintro e w2 ⟨v1, rfl, hv1, hb2⟩
     obtain ⟨A3, c3, rfl, hc3⟩ := hv1.form
     have hb2' : Below W1.heap.size W1 w2 := Below.trans (show Below W1.heap.size W1 _ by (repeat (first|exact bR _ _|assumption|apply bN|apply bA|apply bD))) (hb2.mono (by first|(simp;done)|(simp;omega)|omega))
     have q : w2.heap[W1.heap.size]? = some (.cells #[.int .i64 0, .int .i64 0, .bool false, .slice none 0 0] 27) := blk2 hb2 (blk_alloc _ _ _ rfl)
     obtain ⟨f0, f1, f2, f3, ff⟩ := cells4 q
     have q1 := blk2 hb2' HMO.out
     have HB2 := Lib.hid (HB.out.below hb2')
     obtain ⟨g1, g2, g3, g4, g5, g6⟩ := HB2.out
     clear c1 e2 e3 e5
     have c1 := Boxed.cell q1
     have e2 := Boxed.cell g2
     have e3 := Boxed.cell g3
     have HV := Lib.hid (And.intro q (And.intro (hv1.imp (B' := W1.heap.size) (by first|(simp;done)|(simp;omega)|omega) (fun _ _ h => h)) hb2'))
     have l1 := blk_lt q1
     have l2 := blk_lt g2
     have l3 := blk_lt g3
     have hold := olds w2
     have n1 : (W1.heap.size = nb + 1) = False := by simp; omega
     have n2 : (W1.heap.size = nb + 2) = False := by simp; omega
     clear q
     clear hv1 hb2 hb2' q1 g1 g2 g3 g4 g5 g6
     refine ⟨_, rfl, ?_, ?_⟩
     · exact ⟨(fun _ => ⟨_, drop_at rfl, by (first|(go_simp;done)|(go_simp;with_reducible rfl))⟩), (fun _ => ⟨_, drop_at rfl, by (first|(go_simp;done)|(go_simp;with_reducible rfl))⟩), trivial⟩
     simp only [Act.put, pA, pB, pC]
     refine ST.p (v := ?v1_11_6_9) rfl rfl rfl (fun W => ?h1_11_6_9) ?r1_11_6_9
     case h1_11_6_9 => (first|(go_simp;done)|(go_simp;with_reducible rfl)|(go_simp;constructor<;>with_reducible rfl))
     simp only [Act.put, pA, pB, pC]
     refine ST.k (w' := ?w1_11_8_10) rfl rfl ?h1_11_8_10 ?s1_11_8_10 ?r1_11_8_10 ?x1_11_8_10
     case h1_11_8_10 => (first|(go_simp;done)|(go_simp;with_reducible rfl)|(go_simp;constructor<;>with_reducible rfl))
     case s1_11_8_10 => exact ⟨(nw (by kernel_rfl)), (nw (by kernel_rfl)), trivial⟩
     case x1_11_8_10 => exact ST.stop
     simp only [Act.put, pA, pB, pC]
     simp only [ST]
     go_wp2
     go_meet
     have hsz := HV.out
     exact ⟨_, A3, c3, rfl, Lib.hid ⟨set4 HV.out.1, App.setT4 HV.out.2.1 HV.out.1 (by decide), (((HV.out.2.2.setCell (Nat.le_refl _) _).setCell (Nat.le_refl _) _).setCell (Nat.le_refl _) _).setCell (Nat.le_refl _) _⟩⟩
    case x1_11_7_13 => exact ST.stop
  case rest =>
  obtain ⟨b, A3, c3, rfl, HC⟩ := hcut
  have hbw : Below W.heap.size W wc := HB1.out.trans (HC.out.2.2.mono HB1.out.size)
  have HBw := Lib.hid (HB.out.below HC.out.2.2)
  obtain ⟨g1, g2, g3, g4, g5, g6⟩ := HBw.out
  clear c1 e2 e3 e5
  obtain ⟨z0, z1, z2, z3, zf⟩ := cells4 HC.out.1
  obtain ⟨f0, f1, f2, ff⟩ := cells3 g1
  obtain ⟨A8, c8, hy8, _, hri⟩ := HC.out.2.1.rd (by have := HLEN.out; omega)
  cases hy8
  have hst := step_any A A3 kc c3 c ⟨i, at_, back, ws⟩ wc (Lib.hid (HT.out _ hbw).1) (HT.out _ hbw).2 hkc hri HG.out HM.out
  obtain ⟨⟨er, cc, ph⟩, hx⟩ : ∃ x, stepR c ⟨i, at_, back, ws⟩ = x := ⟨_, rfl⟩
  rw [hx] at hst
  have HX := Lib.hid hx
  have HBW := Lib.hid hbw
  clear hx hri hbw g1 g2 g3 g4 g5 g6
  go_wp2_with fail
  refine hst.mono ?_
  clear hst
  rintro e w4 ⟨v, rfl, ho4, hb4⟩
  dsimp only at ho4 ⊢
  obtain ⟨A9, c9, rfl, _⟩ := ho4.form'
  have hb44 : Below W1.heap.size W1 w4 := HC.out.2.2.trans (hb4.mono HC.out.2.2.size)
  have HB4 := Lib.hid (HB.out.below hb44)
  obtain ⟨g1, g2, g3, g4, g5, g6⟩ := HB4.out
  have q2 := blk2 hb4 HC.out.1
  have q1 := blk2 hb44 HMO.out
  have HV4 := Lib.hid (And.intro (HC.out.2.1.below EI.stays hb4) (And.intro ho4 (And.intro hb44 (And.intro q1 q2))))
  clear z0 z1 z2 z3 zf f0 f1 f2 ff
  obtain ⟨z0, z1, z2, z3, zf⟩ := cells4 q2
  have c1 := Boxed.cell q1
  have d1 := Boxed.frozen q1
  have c4 := Boxed.cell g4
  have l1 := blk_lt q1
  have l2 := blk_lt q2
  have l4 := blk_lt g4
  have hold := olds w4
  have hsz4 : W1.heap.size ≤ w4.heap.size := hb44.size
  clear ho4 hb4 hb44 q1 q2 g1 g2 g3 g4 g5 g6
  by_cases he : er = 0
  · subst he
    have HOU := Lib.hid (show out = pre ++ [(⟨i, at_, back, ws⟩, cc)] by rw [HOUT.out, HX.out]; rfl)
    go_upto_region 14 with fail
    obtain ⟨W5, hW5⟩ : ∃ W5, w4.alloc (.cells #[.int .i64 cc.wires, .int .i64 cc.bits, .slice A9 cc.gates.length c9] 24) = W5 := ⟨_, rfl⟩
    have hb5 : Below w4.heap.size w4 W5 := by rw [← hW5]; (repeat (first|exact bR _ _|assumption|apply bN|apply bA|apply bD))
    have p5 : W5.heap[w4.heap.size]? = some (.cells #[.int .i64 cc.wires, .int .i64 cc.bits, .slice A9 cc.gates.length c9] 24 (0, 0)) := by rw [← hW5]; exact blk_alloc _ _ _ rfl
    try rw [hW5]
    clear hW5 z0 z1 z2 z3 zf c1 d1 c4 hold
    obtain ⟨h1, h2, h3, h4, h5⟩ := HV4.out
    have q1 := blk2 hb5 h4
    have q2 := blk2 hb5 h5
    have HB5 := Lib.hid (HB4.out.below hb5)
    obtain ⟨g1, g2, g3, g4, g5, g6⟩ := HB5.out
    obtain ⟨z0, z1, z2, z3, zf⟩ := cells4 q2
    obtain ⟨y0, y1, y2, yf⟩ := cells3 p5
    have c1 := Boxed.cell q1
    have d1 := Boxed.frozen q1
    have c4 := Boxed.cell g4
    have hb15 := h3.trans (hb5.mono h3.size)
    have hbz : by_ ≤ W1.heap.size := by have := HB1.out.size; omega
    obtain ⟨fn, tmps, assign, body, hy, hR⟩ := HY.out pre (⟨i, at_, back, ws⟩, cc) #[.agg #[.int .i64 i, .int .i64 at_, .bool back, .slice A3 ws.length c3], .agg #[.int .i64 cc.wires, .int .i64 cc.bits, .slice A9 cc.gates.length c9]] W5
      (HABI.out.1.below HJ.out hb15) (by rw [← HOU.out]; exact HPRE.out) ⟨_, _, rfl, (h1.below EI.stays hb5).imp (by omega) (fun _ _ h => h), (h2.below hb5).weak (by have := HC.out.2.2.size; omega)⟩
    have HW5 := Lib.hid (And.intro q1 (And.intro hb15 (HB1.out.trans (hb15.mono HB1.out.size))))
    clear h1 h2 h3 h4 h5 q1 q2 g1 g2 g3 g4 g5 g6 p5 hb15 hb5
    refine (wpIn_wide (n := 0)).1 ?_
    gi_wp2
    refine ⟨rfl, hR.mono ?_⟩
    clear hR hy
    rintro e W6 (⟨rfl, hJ6, hk6⟩ | ⟨rfl, hJ6, hk6⟩)
    all_goals
      have q6 := hk6.2 _ _ _ _ HW5.out.1 (fun e => e.elim (by unfold Lax; decide) (fun e => by omega))
      clear c1 d1
      have c1 := Boxed.cell q6
      have d1 := Boxed.frozen q6
      have HE := Lib.hid (And.intro hJ6 (And.intro hk6 q6))
      clear hJ6 hk6 q6
      gi_wp2
    all_goals
      have hn : n0 ≤ W.heap.size := by omega
      obtain ⟨hJ6, hk6, q6⟩ := HE.out
      go_end0
      refine ⟨⟨_, rfl⟩, (HB5.out.keep hk6).flag ho, ((Keep.of_below HW5.out.2.2 hn).trans hk6.two).trans (Keep.set _ q6 (.inr rfl) (by omega)), ?_⟩
      rw [HOU.out]
    · exact .inl ⟨Boxed.set _ q6, HABI.out.1.flag _ hJ6 (by omega) q6⟩
    · exact .inr ⟨Boxed.set _ q6, _, List.prefix_refl _, HABI.out.2.flag _ hJ6 (by omega) q6⟩
  · have hne : (er == 0) = false := by simpa using he
    have HOU := Lib.hid (show out = pre by rw [HOUT.out, HX.out, if_neg he, List.append_nil])
    clear he
    go_wp2
    obtain ⟨h1, h2, h3, h4, h5⟩ := HV4.out
    have hb9 := below_alloc (Below.refl w4.heap.size w4) (.cells #[.int .i64 cc.wires, .int .i64 cc.bits, .slice A9 cc.gates.length c9] 24)
    have hb19 := h3.trans (hb9.mono h3.size)
    go_end0
    refine ⟨⟨_, rfl⟩, HB4.out.below hb9, Keep.of_below (HB1.out.trans (hb19.mono HB1.out.size)) (by omega), ?_⟩
    rw [HOU.out]
    exact .inl ⟨blk2 hb9 h4, HABI.out.1.below HJ.out hb19⟩
end Go.Proofs.YtfommmijojfdbaaGreatDoor
