/- Part 34 of the proof that 'spoondriftlaw19.RulesApplies' holds for every input; it has no condition beyond the statement's own. -/
import Derived.Test.YtfommmijojfdbaaGreatDoorZ32
import Derived.Test.YtfommmijojfdbaaGreatDoorZ27
set_option linter.all false
namespace Go.Proofs.YtfommmijojfdbaaGreatDoor
open Go.RowKit
set_option maxRecDepth 100000 in
set_option maxHeartbeats 4000000 in
theorem rOwnM_any (A : Option Addr) (n c : Nat) (xs : List M) (w : World) (h : RdM w A xs) (hn : xs.length = n) (hw : ∀ g ∈ xs, g.wires.length ≤ 1000000) (hl : xs.length ≤ 1000000) :
    Calls Tryz.prog 17 #[.slice A n c] w fun e w' => ∃ v, e = .returned v ∧ App (EMo 3 w.heap.size) 27 4 w.heap.size w' v xs ∧ Below w.heap.size w w' := by
  subst hn
  have HR := Lib.hid h
  have HW := Lib.hid hw
  clear hw h
  go_enter Tryz.func17, Tryz.ntmps17
  go_wp2
  go_loopw [3, 8] (fun v i wr => ∃ k : Nat, k ≤ xs.length ∧ i = .int .i64 k ∧ Hid (App (EMo 3 w.heap.size) 27 4 w.heap.size wr v (xs.take k)) ∧ Below w.heap.size w wr) (fun _ i _ => xs.length - (intOf i).toNat)
  case atStart => exact ⟨0, Nat.zero_le _, rfl, Lib.hid (App.nil _ _ _ _ _), Below.refl _ _⟩
  case round =>
    obtain ⟨k, hk, rfl, HO, hB⟩ := hrel
    by_cases hlt : k < xs.length
    · obtain ⟨b, o, B2, c2, rfl, g0, g1, g2, g3, hc2, hr2⟩ := (HR.out.bM hB).move k hlt
      obtain ⟨g, hg⟩ : ∃ g, xs[k] = g := ⟨_, rfl⟩
      rw [hg] at g0 g1 g2 g3 hc2 hr2
      have hwg : g.wires.length ≤ 1000000 := HW.out g (hg ▸ List.getElem_mem hlt)
      obtain ⟨ps, hps⟩ : ∃ ps, xs.take k = ps := ⟨_, rfl⟩
      have ho := HO.out
      rw [hps] at ho
      obtain rfl : ps.length = k := by have := congrArg List.length hps; simp at this; omega
      obtain ⟨A5, c5, rfl, hc5⟩ := ho.form
      have HG := Lib.hid (And.intro hg hps)
      have HA := Lib.hid ho
      have HRI := Lib.hid hr2
      have hold := olds wr
      have lb := cell_lt g0
      clear hg hps ho hr2 HO
      go_upto_region 5 with fail
      obtain ⟨w1, hw1⟩ : ∃ w1, wr.alloc (.cells #[.int .i64 g.rule, .int .i64 g.at_, .bool g.back, .slice B2 g.wires.length c2] 27) = w1 := ⟨_, rfl⟩
      have hb1 : Below wr.heap.size wr w1 := by rw [← hw1]; (repeat (first|exact bR _ _|assumption|apply bN|apply bA|apply bD))
      have hz1 : w1.heap.size = wr.heap.size + 1 := by rw [← hw1]; simp
      have p0 : w1.heap[wr.heap.size]? = some (.cells #[.int .i64 g.rule, .int .i64 g.at_, .bool g.back, .slice B2 g.wires.length c2] 27 (0, 0)) := by rw [← hw1]; exact blk_alloc _ _ _ rfl
      rw [hw1]
      clear hw1 hold g0 g1 g2 g3 lb
      obtain ⟨k0, k1, k2, k3, kf⟩ := cells4 p0
      have hl1 := blk_lt p0
      have hold := olds w1
      have HZ1 := Lib.hid hz1
      have hz1' : wr.heap.size + 1 ≤ w1.heap.size := by omega
      clear hz1
      have HE := Lib.hid (show App EI 3 1 (wr.heap.size + 1) (w1.alloc (.cells #[] 3)) (.slice (some ⟨w1.heap.size, 0, none⟩) 0 0) [] from App.empty _ _ _ _ _ (by omega))
      go_upto_region 6 with (at_builtin; refine wp_apps (E := EI) (E' := EI) EI.one (fun _ _ h => h) 3 1 (wr.heap.size + 1) rfl _ _ 25 (.int .i64 0) 8 rfl Tryz.underlying25 (by kernel_rfl) rfl (by decide) (by decide) (.slice (some ⟨w1.heap.size, 0, none⟩) 0 0) [] g.wires B2 c2 rfl rfl (HRI.out.bI (by (repeat (first|exact bR _ _|assumption|apply bN|apply bA|apply bD)))) HE.out (by simp; omega) (by simp; omega) (fun _ _ _ _ _ _ _ h => h) ?_; intro v2 w3 ho2 hg2; obtain ⟨A3, c3, hv2, hc3⟩ := ho2.form; rw [List.nil_append] at hv2 ho2; subst hv2; have q0 : w3.heap[wr.heap.size]? = some (.cells #[.int .i64 g.rule, .int .i64 g.at_, .bool g.back, .slice B2 g.wires.length c2] 27 (0, 0)) := (hg2.block _ (by simp; omega) (fun e => (show wr.heap.size ≠ w1.heap.size by omega) (by simpa [Value.ownBlock] using e))).trans (alloc_old p0); obtain ⟨q1, q2, q3, q4, qf⟩ := cells4 q0; have HQ := Lib.hid (And.intro q0 (And.intro ho2 hg2)); clear q0 ho2 hg2)
      obtain ⟨w4, hw4⟩ : ∃ w4, w3.setCell ⟨wr.heap.size, 3, none⟩ (.slice A3 g.wires.length c3) = w4 := ⟨_, rfl⟩
      have hs3 := HQ.out.2.2.size
      simp only [World.size_alloc] at hs3
      have hz4 : w4.heap.size = w3.heap.size := by rw [← hw4]; simp
      have p4 : w4.heap[wr.heap.size]? = some (.cells #[.int .i64 g.rule, .int .i64 g.at_, .bool g.back, .slice A3 g.wires.length c3] 27 (0, 0)) := by rw [← hw4]; exact heap_setCell_same _ _ 3 _ _ _ HQ.out.1
      have hin : App EI 3 1 (wr.heap.size + 1) w4 (.slice A3 g.wires.length c3) g.wires := by rw [← hw4]; exact HQ.out.2.1.setCell (by simp) _
      have hb4 : Below wr.heap.size wr w4 := by
        rw [← hw4]
        exact (HE.out.grows HQ.out.2.2 (hb1.trans ((below_alloc (Below.refl _ _) _).mono (by omega))) (by omega) (by simp; omega)).setCell (Nat.le_refl _) _
      have HD := Lib.hid (And.intro hin hb4)
      obtain ⟨q1, q2, q3, q4, qf⟩ := cells4 p4
      have hbw := hB.size
      have HZ4 := Lib.hid hz4
      have hz4' : w3.heap.size ≤ w4.heap.size := by omega
      rw [hw4]
      clear hw4 hin hb4 p4 hz4 hold
      have hold := olds w4
      go_wp2_with (at_builtin; refine wp_app (E := EMo 3 w.heap.size) (W := w4) 27 4 w.heap.size rfl _ _ 30 (.agg #[.int .i64 0, .int .i64 0, .bool false, .slice none 0 0]) 48 rfl Tryz.underlying30 (by kernel_rfl) rfl (by decide) (by decide) (.slice A5 ps.length c5) ps g [.int .i64 g.rule, .int .i64 g.at_, .bool g.back, .slice A3 g.wires.length c3] rfl rfl rfl (by simp [Value.oneCell']) ⟨_, rfl, HD.out.1.imp (by omega) (fun _ _ h => h)⟩ (HA.out.below (EMo.stays _ _) HD.out.2) (by omega) (by omega) (fun _ _ _ h1 h2 _ _ h => h.other h1 h2 (by decide)) ?_; intro v5 w5 ho5 hg5; have HO5 := Lib.hid (And.intro ho5 hg5); clear ho5 hg5)
      go_roundw
      case rel =>
        refine ⟨ps.length + 1, by omega, by go_num, Lib.hid ?_, (HA.out.below (EMo.stays _ _) HD.out.2).grows HO5.out.2 (hB.trans (HD.out.2.mono hB.size)) (Nat.le_refl _) (by omega)⟩
        rw [List.take_succ_eq_append_getElem hlt, HG.out.1, HG.out.2]; exact HO5.out.1
      case measure => simp [intOf]; omega
    · have HO3 := Lib.hid (show App (EMo 3 w.heap.size) 27 4 w.heap.size wr u3 xs from by
        have := HO.out
        rwa [List.take_of_length_le (by omega)] at this)
      go_wp2
      go_ret
      exact ⟨_, rfl, HO3.out, hB⟩
end Go.Proofs.YtfommmijojfdbaaGreatDoor
namespace Go.Proofs.YtfommmijojfdbaaGreatDoor
open Go.RowKit Go.Shelf
attribute [local go_sem] Oper.semAt_some
theorem take_known {b : List Int} {k : Nat} (hq : ∀ x ∈ b.take k, 0 ≤ x) (h0 : 0 ≤ b.getD k 0) : ∀ x ∈ b.take (k + 1), 0 ≤ x := by
  intro y hy
  rw [List.take_add_one, List.mem_append] at hy
  rcases hy with hy | hy
  · exact hq y hy
  · rw [List.getD_eq_getElem?_getD] at h0
    cases he : b[k]? with
    | none => rw [he] at hy; cases hy
    | some z => rw [he] at hy h0; simp at hy h0; omega
theorem take_put {b : List Int} {k : Nat} {y : Int} (hq : ∀ x ∈ b.take k, 0 ≤ x) (h0 : 0 ≤ y) : ∀ x ∈ (b.set k y).take (k + 1), 0 ≤ x := by
  refine take_known (fun x hx => ?_) ?_
  · rw [List.take_set_of_le (Nat.le_refl k)] at hx
    exact hq x hx
  · rw [List.getD_eq_getElem?_getD, List.getElem?_set]
    simp
    split
    · simpa using h0
    · simp
theorem flatMap_range {β : Type} (F : Nat → List β) {m n : Nat} (h : m ≤ n) : (List.range m).flatMap F <+: (List.range n).flatMap F := by
  induction n with
  | zero => obtain rfl : m = 0 := by omega
            exact List.prefix_refl _
  | succ n ih =>
    rcases Nat.lt_or_ge m (n + 1) with h' | h'
    · rw [List.range_succ, List.flatMap_append]
      exact (ih (by omega)).trans (List.prefix_append _ _)
    · obtain rfl : m = n + 1 := by omega
      exact List.prefix_refl _
theorem flatMap_succ {β : Type} (F : Nat → List β) (m : Nat) : (List.range (m + 1)).flatMap F = (List.range m).flatMap F ++ F m := by
  rw [List.range_succ, List.flatMap_append]; simp
theorem set3l (b0 b1 b2 y : Int) {k : Nat} (hk : k < 3) : ∃ v0 v1 v2, [b0, b1, b2].set k y = [v0, v1, v2] ∧ [Value.int .i64 b0, Value.int .i64 b1, Value.int .i64 b2].set k (Value.int .i64 y) = [Value.int .i64 v0, Value.int .i64 v1, Value.int .i64 v2] := by
  rcases (show k = 0 ∨ k = 1 ∨ k = 2 by omega) with rfl | rfl | rfl
  · exact ⟨y, b1, b2, rfl, rfl⟩
  · exact ⟨b0, y, b2, rfl, rfl⟩
  · exact ⟨b0, b1, y, rfl, rfl⟩
def chArgs (nb by_ br bm bc at_ : Nat) (k : Int) (b0 b1 b2 : Int) : Array Value := #[.int .i64 at_, .int .i64 k, .agg #[.int .i64 b0, .int .i64 b1, .int .i64 b2], .pointer (some ⟨bm, 0, none⟩), .pointer (some ⟨br, 0, none⟩), .pointer (some ⟨nb + 1, 0, none⟩), .pointer (some ⟨nb + 2, 0, none⟩), .pointer (some ⟨nb, 0, none⟩), .pointer (some ⟨by_, 0, none⟩), .pointer (some ⟨bc, 0, none⟩)]
set_option maxRecDepth 1000000 in
set_option maxHeartbeats 8000000 in
theorem choose_any (n0 nb by_ br bm bc l Bm : Nat) (c : C) (A : Option Addr) (kc i : Nat) (back : Bool) (vL vR fv : Value) (xs : List (M × C)) (J Jx : List (M × C) → World → Prop) (at_ : Nat) (w0 : World)
    (hi : i < 44) (hf : fitB i back = true) (hG : Good c) (hat : at_ ≤ c.gates.length) (hkc : c.gates.length ≤ kc) (ho : nb + 3 ≤ by_ ∧ by_ < br ∧ br < bm ∧ bm < bc) (hn0 : n0 ≤ nb) (hBm : Bm ≤ by_)
    (hJ : Abide by_ J) (hJx : Abide by_ Jx) (hY : AsksY n0 nb Bm l xs J Jx) (hR : ∀ W', Keep ex2 n0 w0 W' → Laid W' ∧ RdG W' A c.gates) :
    ∀ (f k : Nat) (b0 b1 b2 : Int) (pre out : List (M × C)) (W : World), (k : Int) + f = ruleW i → BOk c [b0, b1, b2] → (∀ x ∈ [b0, b1, b2].take k, 0 ≤ x) → ChB nb by_ br bm bc l c A kc i back vL vR fv W → Keep ex2 n0 w0 W → bc < W.heap.size →
      Mo bm J Jx pre W → Hid (out = pre ++ chooseL c i back at_ f k [b0, b1, b2]) → out <+: xs → Calls Tryz.prog 116 (chArgs nb by_ br bm bc at_ k b0 b1 b2) W (ChR n0 nb by_ br bm bc l c A kc i back vL vR fv J Jx out W) := by
  intro f
  induction f with
  | zero =>
    intro k b0 b1 b2 pre out W hk hb hp hB hK hbc hm hout hpre
    rcases hm with hm | hm
    · exact choose_last n0 nb by_ br bm bc l Bm c A kc i back vL vR fv xs J Jx at_ k b0 b1 b2 pre W hi hf hG hat hkc ho hn0 hBm hJ hJx hY (by simpa using hk) hb hp hB (fun W' hW => hR W' (hK.trans (Keep.of_below hW (by omega)))) hbc hm out hout hpre
    · rw [hout.out]
      exact choose_no n0 nb by_ br bm bc l c A kc i back vL vR fv J Jx at_ k b0 b1 b2 pre _ W hJx hB (by omega) hm
  | succ f ih =>
    intro k b0 b1 b2 pre out W hk hb hp hB hK hbc hm hout hpre
    rcases hm with hm | hm
    case inr =>
      rw [hout.out]
      exact choose_no n0 nb by_ br bm bc l c A kc i back vL vR fv J Jx at_ k b0 b1 b2 pre _ W hJx hB (by omega) hm
    have hw3 := (rule_ok i hi).2.2
    have hk3 : k < 3 := by omega
    have hcw := (good_iff.1 hG).1
    unfold chArgs
    obtain ⟨W1, hW1⟩ : ∃ W1, W.alloc (.cells #[.int .i64 b0, .int .i64 b1, .int .i64 b2] 157) = W1 := ⟨_, rfl⟩
    have hb1 : Below W.heap.size W W1 := by rw [← hW1]; (repeat (first|exact bR _ _|assumption|apply bN|apply bA|apply bD))
    have p0 : W1.heap[W.heap.size]? = some (.cells #[.int .i64 b0, .int .i64 b1, .int .i64 b2] 157 (0, 0)) := by rw [← hW1]; exact blk_alloc _ _ _ rfl
    have hsz1 : W.heap.size + 1 ≤ W1.heap.size := by rw [← hW1]; simp
    have HB := Lib.hid (hB.below hb1)
    have HMO := Lib.hid (blk2 hb1 hm.1)
    have HJ1 := Lib.hid (show Mo bm J Jx pre W1 from .inl ⟨HMO.out, hJ.below hm.2 hb1⟩)
    have HP0 := Lib.hid p0
    have HB1 := Lib.hid hb1
    have HPRE := Lib.hid hpre
    have HBK := Lib.hid hb
    have HP := Lib.hid hp
    have HK := Lib.hid hK
    have HABI := Lib.hid (And.intro hJ hJx)
    have hcz := cell3 p0 hk3
    obtain ⟨d0, d1, d2, df⟩ := cells3 p0
    obtain ⟨g1, g2, g3, g4, g5, g6⟩ := HB.out
    have c1 := Boxed.cell HMO.out
    have c6 := Boxed.cell g6
    have e5 : W1.cell? ⟨br, 2, none⟩ = some (.int .i64 (ruleW i)) := by rw [cell_of_row _ _ 2 _ _ (0, 0) g5]; rfl
    obtain ⟨f0, f1, f2, ff⟩ := cells3 g1
    obtain ⟨rz, hrz⟩ : ∃ z, ruleW i = z := ⟨_, rfl⟩
    rw [hrz] at e5
    have hrne : ((k : Int) == rz) = false := by simp; omega
    have hk0 : (0 : Int) ≤ (k : Int) := by omega
    have hk3' : (k : Int) < 3 := by omega
    have hwr : IntKind.i64.wrap ((k : Int) + 1) = (k : Int) + 1 := IntWalk.i64_in _ (by omega)
    obtain ⟨z, hz⟩ : ∃ z, [b0, b1, b2].getD k 0 = z := ⟨_, rfl⟩
    rw [hz] at hcz
    have HKF := Lib.hid (show ((k + 1 : Nat) : Int) + f = ruleW i by push_cast at hk ⊢; omega)
    have HIH := Lib.hid ih
    have HOUT := Lib.hid (show out = pre ++ if 0 ≤ z then chooseL c i back at_ f (k + 1) [b0, b1, b2] else (List.range c.wires.toNat).flatMap fun (w : Nat) => if (w : Int) ∈ [b0, b1, b2] then [] else chooseL c i back at_ f (k + 1) ([b0, b1, b2].set k (w : Int)) by rw [hout.out, chooseL_succ, hz])
    have HZ := Lib.hid hz
    clear hB hm hpre hb hp hJ hJx hY hR hK hout p0 g1 g2 g3 g4 g5 g6 hb1 ih hrz hz hf hG hk
    by_cases hz0 : 0 ≤ z
    · have HO := Lib.hid (show out = pre ++ chooseL c i back at_ f (k + 1) [b0, b1, b2] by rw [HOUT.out, if_pos hz0])
      have hih := HIH.out (k + 1) b0 b1 b2 pre out W1 HKF.out HBK.out (take_known HP.out (by rw [HZ.out]; exact hz0)) HB.out (HK.out.trans (Keep.of_below HB1.out (by omega))) (by omega) HJ1.out HO HPRE.out
      rw [show ((k + 1 : Nat) : Int) = (k : Int) + 1 from rfl] at hih
      unfold chArgs at hih
      have hz0' : ¬ z < 0 := by omega
      go_enter Tryz.func116, Tryz.ntmps116
      go_wp2_with fail
      try rw [hW1]
      clear hW1
      refine hih.mono ?_
      clear hih
      rintro e w2 ⟨⟨v, rfl⟩, h2, h3, h4⟩
      have HE := Lib.hid (And.intro h2 (And.intro h3 h4))
      clear h2 h3 h4
      go_wp2
      go_end0
      exact ⟨⟨_, rfl⟩, HE.out.1, (Keep.of_below HB1.out (by omega)).trans HE.out.2.1, HE.out.2.2⟩
    · obtain ⟨n, hn⟩ : ∃ n : Nat, c.wires = n := ⟨c.wires.toNat, by omega⟩
      obtain ⟨F, hF⟩ : ∃ F : Nat → List (M × C), F = fun (w : Nat) => if (w : Int) ∈ [b0, b1, b2] then [] else chooseL c i back at_ f (k + 1) ([b0, b1, b2].set k (w : Int)) := ⟨_, rfl⟩
      have HO := Lib.hid (show out = pre ++ (List.range n).flatMap F by rw [HOUT.out, if_neg hz0, hn, Int.toNat_natCast, hF])
      have HF := Lib.hid hF
      rw [hn] at f0
      have HN := Lib.hid hn
      have hn12 : n ≤ 12 := by omega
      have hnz : z < 0 := by omega
      have HS := Lib.hid (show ChB nb by_ br bm bc l c A kc i back vL vR fv W1 ∧ Keep ex2 n0 W W1 ∧ Mo bm J Jx (pre ++ (List.range 0).flatMap F) W1 ∧ W1.heap[W.heap.size]? = some (.cells #[.int .i64 b0, .int .i64 b1, .int .i64 b2] 157 (0, 0)) from ⟨HB.out, Keep.of_below HB1.out (by omega), by simpa using HJ1.out, HP0.out⟩)
      clear hn HOUT hcw hF
      go_enter Tryz.func116, Tryz.ntmps116
      go_upto_region 1 with fail
      try rw [hW1]
      clear hW1
      go_wp2
      clear d0 d1 d2 df c1 c6 e5 f0 f1 f2 ff hcz
      go_loopw [17, 18, 22] (fun _ _ iz wr => ∃ m : Nat, m ≤ n ∧ iz = .int .i64 m ∧ Hid (ChB nb by_ br bm bc l c A kc i back vL vR fv wr ∧ Keep ex2 n0 W wr ∧ Mo bm J Jx (pre ++ (List.range m).flatMap F) wr ∧ wr.heap[W.heap.size]? = some (.cells #[.int .i64 b0, .int .i64 b1, .int .i64 b2] 157 (0, 0)))) (fun _ _ iz _ => n - (intOf iz).toNat)
      case atStart => exact ⟨0, Nat.zero_le _, rfl, HS⟩
      case round =>
        clear HS HJ1
        obtain ⟨m, hm, rfl, HI⟩ := hrel
        by_cases hlt : m < n
        · obtain ⟨hB, hK, hM, q0⟩ := HI.out
          have HQ := Lib.hid (show out = pre ++ (List.range n).flatMap F from HO.out)
          have HPR := Lib.hid (show pre ++ (List.range (m + 1)).flatMap F <+: xs from (by
            refine List.IsPrefix.trans ?_ HPRE.out
            rw [HO.out]
            exact (List.prefix_append_right_inj _).2 (flatMap_range F hlt)))
          obtain ⟨d0, d1, d2, df⟩ := cells3 q0
          have hlw := blk_lt q0
          have c6 := Boxed.cell hB.2.2.2.2.2
          have l6 := blk_lt hB.2.2.2.2.2
          have hold := olds wr
          obtain ⟨q, hq⟩ : ∃ q, decide ((m : Int) ∈ [b0, b1, b2]) = q := ⟨_, rfl⟩
          have hcn := Contains_is (some ⟨W.heap.size, 0, none⟩) 3 3 [b0, b1, b2] (m : Int) wr (row3 q0) rfl q hq
          have HQQ := Lib.hid hq
          clear hq hB hK hM q0
          cases q
          · have hnm : ¬ (m : Int) ∈ [b0, b1, b2] := by have := HQQ.out; simpa using this
            have HM1 := Lib.hid (show (List.range (m + 1)).flatMap F = (List.range m).flatMap F ++ chooseL c i back at_ f (k + 1) ([b0, b1, b2].set k (m : Int)) by rw [flatMap_succ]; congr 1; rw [HF.out]; exact if_neg hnm)
            have HB9 := Lib.hid (HBK.out.set (k := k) (y := (m : Int)) (by rw [HZ.out]; exact hnz) hnm (by omega) (by rw [HN.out]; omega))
            clear hnm
            go_wp2_with fail
            refine hcn.mono ?_
            clear hcn
            rintro e w2 ⟨rfl, rfl⟩
            go_upto_region 7 with fail
            obtain ⟨W7, hW7⟩ : ∃ W7, wr.alloc (.cells ([Value.int .i64 b0, Value.int .i64 b1, Value.int .i64 b2].set k (Value.int .i64 (m : Int))).toArray 157) = W7 := ⟨_, rfl⟩
            have hb7 : Below wr.heap.size wr W7 := by rw [← hW7]; (repeat (first|exact bR _ _|assumption|apply bN|apply bA|apply bD))
            obtain ⟨v0, v1, v2, hset, hsv⟩ := set3l b0 b1 b2 (m : Int) hk3
            have hblk : W7.heap[wr.heap.size]? = some (.cells #[.int .i64 v0, .int .i64 v1, .int .i64 v2] 157 (0, 0)) := by rw [← hW7, hsv]; exact blk_alloc _ _ _ rfl
            try rw [hW7]
            clear hW7 hsv d0 d1 d2 df
            have c7 := Boxed.cell (blk2 hb7 HI.out.1.2.2.2.2.2)
            clear c6
            obtain ⟨d0, d1, d2, df⟩ := cells3 hblk
            have hih := HIH.out (k + 1) v0 v1 v2 (pre ++ (List.range m).flatMap F) (pre ++ (List.range (m + 1)).flatMap F) W7 HKF.out (by rw [← hset]; exact HB9.out) (by rw [← hset]; exact take_put HP.out (by omega)) (HI.out.1.below hb7)
              (HK.out.trans (HI.out.2.1.trans (Keep.of_below hb7 (by omega)))) (by have := hb7.size; omega) (HI.out.2.2.1.below HABI.out.1 HABI.out.2 hb7) (Lib.hid (by rw [HM1.out, hset, List.append_assoc])) HPR.out
            rw [show ((k + 1 : Nat) : Int) = (k : Int) + 1 from rfl] at hih
            unfold chArgs at hih
            have HB7 := Lib.hid hb7
            clear hset hblk hb7
            go_wp2_with fail
            refine hih.mono ?_
            clear hih
            rintro e w8 ⟨⟨v, rfl⟩, h2, h3, h4⟩
            have hq8 := h3.2 _ _ _ _ (blk2 HB7.out HI.out.2.2.2) (by unfold ex2 Lax; decide)
            have HE := Lib.hid (And.intro h2 (And.intro (HI.out.2.1.trans ((Keep.of_below HB7.out (by omega)).trans h3)) (And.intro h4 hq8)))
            clear h2 h3 h4 hq8
            go_wp2
            go_roundw
            case rel => exact ⟨m + 1, by omega, by go_num, Lib.hid HE.out⟩
            case measure => simp [intOf]; omega
          · have hnm : (m : Int) ∈ [b0, b1, b2] := by have := HQQ.out; simpa using this
            have HM1 := Lib.hid (show (List.range (m + 1)).flatMap F = (List.range m).flatMap F by rw [flatMap_succ, HF.out]; simp only; rw [if_pos hnm, List.append_nil])
            clear hnm
            go_wp2_with fail
            refine hcn.mono ?_
            clear hcn
            rintro e w2 ⟨rfl, rfl⟩
            go_wp2
            go_roundw
            case rel => exact ⟨m + 1, by omega, by go_num, Lib.hid ⟨HI.out.1, HI.out.2.1, by rw [HM1.out]; exact HI.out.2.2.1, HI.out.2.2.2⟩⟩
            case measure => simp [intOf]; omega
        · obtain rfl : m = n := by omega
          go_wp2
          go_end0
          exact ⟨⟨_, rfl⟩, HI.out.1, HI.out.2.1, by rw [HO.out]; exact HI.out.2.2.1⟩
end Go.Proofs.YtfommmijojfdbaaGreatDoor
namespace Go.Proofs.YtfommmijojfdbaaGreatDoor
open Go.RowKit
def lessW : List Int → List Int → Bool
  | [], ys => decide (0 < ys.length)
  | _ :: _, [] => false
  | x :: xs, y :: ys => if x = y then lessW xs ys else decide (x < y)
def lessM (s t : M) : Bool := if s.rule ≠ t.rule then decide (s.rule < t.rule) else if s.back ≠ t.back then !s.back else if s.at_ ≠ t.at_ then decide (s.at_ < t.at_) else lessW s.wires t.wires
theorem lessW_end (xs ys : List Int) (h : xs.length ≤ ys.length) (e : xs = ys.take xs.length) : lessW xs ys = decide (xs.length < ys.length) := by
  induction xs generalizing ys with
  | nil => rfl
  | cons x xs ih =>
    cases ys with
    | nil => simp at h
    | cons y ys =>
      simp only [List.length_cons, List.take_succ_cons, List.cons.injEq] at e h
      rw [lessW, if_pos e.1, ih ys (by omega) e.2]
      simp
theorem lessW_short (xs ys : List Int) (h : ys.length < xs.length) (e : xs.take ys.length = ys) : lessW xs ys = false := by
  induction xs generalizing ys with
  | nil => simp at h
  | cons x xs ih =>
    cases ys with
    | nil => rfl
    | cons y ys =>
      simp only [List.length_cons, List.take_succ_cons, List.cons.injEq] at e h
      rw [lessW, if_pos e.1, ih ys (by omega) e.2]
theorem lessW_at (xs ys : List Int) (k : Nat) (h1 : k < xs.length) (h2 : k < ys.length) (e : xs.take k = ys.take k) (hne : xs[k] ≠ ys[k]) : lessW xs ys = decide (xs[k] < ys[k]) := by
  induction xs generalizing ys k with
  | nil => simp at h1
  | cons x xs ih =>
    cases ys with
    | nil => simp at h2
    | cons y ys =>
      cases k with
      | zero =>
        simp only [List.getElem_cons_zero] at hne ⊢
        rw [lessW, if_neg hne]
      | succ k =>
        simp only [List.length_cons, List.take_succ_cons, List.cons.injEq, List.getElem_cons_succ] at e h1 h2 hne ⊢
        rw [lessW, if_pos e.1]
        exact ih ys k (by omega) (by omega) e.2 hne
set_option maxRecDepth 100000 in
set_option maxHeartbeats 4000000 in
theorem rLess_any (s t : M) (A B : Option Addr) (c d : Nat) (w : World) (h : RdI w A s.wires) (h' : RdI w B t.wires) :
    Calls Tryz.prog 42 #[.agg #[.int .i64 s.rule, .int .i64 s.at_, .bool s.back, .slice A s.wires.length c], .agg #[.int .i64 t.rule, .int .i64 t.at_, .bool t.back, .slice B t.wires.length d]] w fun e w' => e = .returned (.bool (lessM s t)) ∧ Below w.heap.size w w' := by
  have hl1 := h.1
  have hl2 := h'.1
  have HH := Lib.hid (And.intro h h')
  clear h h'
  go_enter Tryz.func42, Tryz.ntmps42
  go_upto_region 1 with fail
  obtain ⟨W1, hW1⟩ : ∃ W1, (w.alloc (.cells #[.int .i64 s.rule, .int .i64 s.at_, .bool s.back, .slice A s.wires.length c] 27)).alloc (.cells #[.int .i64 t.rule, .int .i64 t.at_, .bool t.back, .slice B t.wires.length d] 27) = W1 := ⟨_, rfl⟩
  have hb1 : Below w.heap.size w W1 := by rw [← hW1]; (repeat (first|exact bR _ _|assumption|apply bN|apply bA|apply bD))
  have p0 : W1.heap[w.heap.size]? = some (.cells #[.int .i64 s.rule, .int .i64 s.at_, .bool s.back, .slice A s.wires.length c] 27 (0, 0)) := by rw [← hW1]; exact fst2 _ _ _
  have p1 : W1.heap[w.heap.size + 1]? = some (.cells #[.int .i64 t.rule, .int .i64 t.at_, .bool t.back, .slice B t.wires.length d] 27 (0, 0)) := by rw [← hW1]; exact snd2 _ _ _
  rw [hW1]
  clear hW1
  have HB := Lib.hid hb1
  clear hb1
  obtain ⟨k0, k1, k2, k3, kf⟩ := cells4 p0
  obtain ⟨m0, m1, m2, m3, mf⟩ := cells4 p1
  clear p0 p1
  obtain ⟨q, hq⟩ : ∃ q, s.back = q := ⟨_, rfl⟩
  obtain ⟨q', hq'⟩ : ∃ q, t.back = q := ⟨_, rfl⟩
  rw [hq] at k2
  rw [hq'] at m2
  have HQ := Lib.hid (And.intro hq hq')
  clear hq hq'
  by_cases h1 : s.rule = t.rule
  case neg =>
    have HF := Lib.hid (show lessM s t = decide (s.rule < t.rule) by unfold lessM; rw [if_pos h1])
    have t1 : (s.rule != t.rule) = true := by simpa using h1
    clear h1
    go_wp2
    go_ret
    exact ⟨ret_bool HF.out.symm, HB.out⟩
  have H1 := Lib.hid h1
  have t1 : (s.rule != t.rule) = false := by simpa using h1
  clear h1
  by_cases h2 : q = q'
  case neg =>
    have HF := Lib.hid (show lessM s t = !q by unfold lessM; rw [if_neg (by simpa using H1.out), if_pos (by rw [HQ.out.1, HQ.out.2]; exact h2), HQ.out.1])
    cases q <;> cases q'
    · exact absurd rfl h2
    · clear h2
      go_wp2
      go_ret
      exact ⟨ret_bool HF.out.symm, HB.out⟩
    · clear h2
      go_wp2
      go_ret
      exact ⟨ret_bool HF.out.symm, HB.out⟩
    · exact absurd rfl h2
  subst h2
  have H2 := Lib.hid (show s.back = t.back by rw [HQ.out.1, HQ.out.2])
  clear HQ
  cases q
  case false =>
    by_cases h3 : s.at_ = t.at_
    case neg =>
      have HF := Lib.hid (show lessM s t = decide (s.at_ < t.at_) by unfold lessM; rw [if_neg (by simpa using H1.out), if_neg (by simpa using H2.out), if_pos h3])
      have t3 : (s.at_ != t.at_) = true := by simpa using h3
      clear h3
      go_wp2
      go_ret
      exact ⟨ret_bool HF.out.symm, HB.out⟩
    have HF := Lib.hid (show lessM s t = lessW s.wires t.wires by unfold lessM; rw [if_neg (by simpa using H1.out), if_neg (by simpa using H2.out), if_neg (by simpa using h3)])
    have t3 : (s.at_ != t.at_) = false := by simpa using h3
    clear h3 H1 H2
    go_wp2
    go_loop [5, 6, 38] (fun _ _ i => ∃ j : Nat, j ≤ s.wires.length ∧ i = .int .i64 j ∧ j ≤ t.wires.length ∧ Hid (s.wires.take j = t.wires.take j)) (fun _ _ i => s.wires.length - (intOf i).toNat)
    case atStart => exact ⟨0, Nat.zero_le _, rfl, Nat.zero_le _, Lib.hid (by simp)⟩
    case round =>
      obtain ⟨j, hj, rfl, hj2, HI⟩ := hrel
      by_cases hlt : j < s.wires.length
      · obtain ⟨b, o, rfl, g0⟩ := (HH.out.1.bI HB.out).int j hlt
        by_cases he : j = t.wires.length
        · have HF2 := Lib.hid (show lessM s t = false from HF.out.trans (lessW_short _ _ (by omega) (by rw [← he, HI.out, List.take_of_length_le (by omega)])))
          have te : ((j : Int) == (t.wires.length : Int)) = true := by rw [beq_iff_eq]; omega
          clear he
          go_wp2
          go_ret
          exact ⟨ret_bool HF2.out.symm, HB.out⟩
        · have hlt2 : j < t.wires.length := by omega
          have te : ((j : Int) == (t.wires.length : Int)) = false := by rw [beq_eq_false_iff_ne]; omega
          clear he
          obtain ⟨b', o', rfl, g1⟩ := (HH.out.2.bI HB.out).int j hlt2
          have HX := Lib.hid (And.intro (lessW_at s.wires t.wires j hlt hlt2 HI.out) (And.intro (List.take_succ_eq_append_getElem hlt) (List.take_succ_eq_append_getElem hlt2)))
          obtain ⟨x, hx⟩ : ∃ x, s.wires[j] = x := ⟨_, rfl⟩
          obtain ⟨y, hy⟩ : ∃ y, t.wires[j] = y := ⟨_, rfl⟩
          rw [hx] at g0 HX
          rw [hy] at g1 HX
          clear hx hy
          by_cases hxy : x = y
          · have HI2 := Lib.hid (show s.wires.take (j + 1) = t.wires.take (j + 1) by rw [HX.out.2.1, HX.out.2.2, HI.out, hxy])
            have t5 : (x != y) = false := by simpa using hxy
            clear hxy
            go_wp2
            go_round
            case rel => exact ⟨j + 1, by omega, by go_num, by omega, HI2⟩
            case measure => simp [intOf]; omega
          · have HF2 := Lib.hid (show lessM s t = decide (x < y) from HF.out.trans (HX.out.1 hxy))
            have t5 : (x != y) = true := by simpa using hxy
            clear hxy
            go_wp2
            go_ret
            exact ⟨ret_bool HF2.out.symm, HB.out⟩
      · have HF2 := Lib.hid (show lessM s t = decide (s.wires.length < t.wires.length) from HF.out.trans (lessW_end _ _ (by omega) (by
          have := HI.out
          rw [List.take_of_length_le (by omega)] at this
          rw [show s.wires.length = j by omega]
          exact this)))
        go_wp2
        go_ret
        exact ⟨ret_bool (by rw [HF2.out]), HB.out⟩
  case true =>
    by_cases h3 : s.at_ = t.at_
    case neg =>
      have HF := Lib.hid (show lessM s t = decide (s.at_ < t.at_) by unfold lessM; rw [if_neg (by simpa using H1.out), if_neg (by simpa using H2.out), if_pos h3])
      have t3 : (s.at_ != t.at_) = true := by simpa using h3
      clear h3
      go_wp2
      go_ret
      exact ⟨ret_bool HF.out.symm, HB.out⟩
    have HF := Lib.hid (show lessM s t = lessW s.wires t.wires by unfold lessM; rw [if_neg (by simpa using H1.out), if_neg (by simpa using H2.out), if_neg (by simpa using h3)])
    have t3 : (s.at_ != t.at_) = false := by simpa using h3
    clear h3 H1 H2
    go_wp2
    go_loop [5, 6, 38] (fun _ _ i => ∃ j : Nat, j ≤ s.wires.length ∧ i = .int .i64 j ∧ j ≤ t.wires.length ∧ Hid (s.wires.take j = t.wires.take j)) (fun _ _ i => s.wires.length - (intOf i).toNat)
    case atStart => exact ⟨0, Nat.zero_le _, rfl, Nat.zero_le _, Lib.hid (by simp)⟩
    case round =>
      obtain ⟨j, hj, rfl, hj2, HI⟩ := hrel
      by_cases hlt : j < s.wires.length
      · obtain ⟨b, o, rfl, g0⟩ := (HH.out.1.bI HB.out).int j hlt
        by_cases he : j = t.wires.length
        · have HF2 := Lib.hid (show lessM s t = false from HF.out.trans (lessW_short _ _ (by omega) (by rw [← he, HI.out, List.take_of_length_le (by omega)])))
          have te : ((j : Int) == (t.wires.length : Int)) = true := by rw [beq_iff_eq]; omega
          clear he
          go_wp2
          go_ret
          exact ⟨ret_bool HF2.out.symm, HB.out⟩
        · have hlt2 : j < t.wires.length := by omega
          have te : ((j : Int) == (t.wires.length : Int)) = false := by rw [beq_eq_false_iff_ne]; omega
          clear he
          obtain ⟨b', o', rfl, g1⟩ := (HH.out.2.bI HB.out).int j hlt2
          have HX := Lib.hid (And.intro (lessW_at s.wires t.wires j hlt hlt2 HI.out) (And.intro (List.take_succ_eq_append_getElem hlt) (List.take_succ_eq_append_getElem hlt2)))
          obtain ⟨x, hx⟩ : ∃ x, s.wires[j] = x := ⟨_, rfl⟩
          obtain ⟨y, hy⟩ : ∃ y, t.wires[j] = y := ⟨_, rfl⟩
          rw [hx] at g0 HX
          rw [hy] at g1 HX
          clear hx hy
          by_cases hxy : x = y
          · have HI2 := Lib.hid (show s.wires.take (j + 1) = t.wires.take (j + 1) by rw [HX.out.2.1, HX.out.2.2, HI.out, hxy])
            have t5 : (x != y) = false := by simpa using hxy
            clear hxy
            go_wp2
            go_round
            case rel => exact ⟨j + 1, by omega, by go_num, by omega, HI2⟩
            case measure => simp [intOf]; omega
          · have HF2 := Lib.hid (show lessM s t = decide (x < y) from HF.out.trans (HX.out.1 hxy))
            have t5 : (x != y) = true := by simpa using hxy
            clear hxy
            go_wp2
            go_ret
            exact ⟨ret_bool HF2.out.symm, HB.out⟩
      · have HF2 := Lib.hid (show lessM s t = decide (s.wires.length < t.wires.length) from HF.out.trans (lessW_end _ _ (by omega) (by
          have := HI.out
          rw [List.take_of_length_le (by omega)] at this
          rw [show s.wires.length = j by omega]
          exact this)))
        go_wp2
        go_ret
        exact ⟨ret_bool (by rw [HF2.out]), HB.out⟩
end Go.Proofs.YtfommmijojfdbaaGreatDoor
