/- The reference's rules: Steps. -/
import Derived.Test.YtfommmijojfdbaaGreatDoorF22
import Derived.Test.YtfommmijojfdbaaGreatDoorZ40
set_option linter.all false
namespace Go.Proofs.YtfommmijojfdbaaGreatDoor
open Go.RowKit

set_option maxRecDepth 1000000 in
set_option maxHeartbeats 8000000 in
theorem rSteps19_any (A : Option Addr) (k : Nat) (c : C) (r : Int) (back : Bool) (w : World) (h : RdG w A c.gates) (hk : c.gates.length ≤ k) :
    Calls Tryz.prog 23 #[.agg #[.int .i64 c.wires, .int .i64 c.bits, .slice A c.gates.length k], .int .i64 r, .bool back] w (RetS (StepsR c r back) w) := by
  have HH := Lib.hid h
  clear h
  go_enter Tryz.func23, Tryz.ntmps23
  go_upto_region 1 with fail
  obtain ⟨W1, hW1⟩ : ∃ W1, w.alloc (.cells #[.int .i64 c.wires, .int .i64 c.bits, .slice A c.gates.length k] 24) = W1 := ⟨_, rfl⟩
  have hb1 : Below w.heap.size w W1 := by rw [← hW1]; exact bl
  have p0 : W1.heap[w.heap.size]? = some (.cells #[.int .i64 c.wires, .int .i64 c.bits, .slice A c.gates.length k] 24 (0, 0)) := by rw [← hW1]; exact blk_alloc _ _ _ rfl
  rw [hW1]
  clear hW1
  obtain ⟨a0, a1, a2, af⟩ := cells3 p0
  have hp := rPlain19_any A k c W1 (HH.out.bG hb1) hk
  go_wp2_with fail
  refine hp.mono ?_
  clear hp
  rintro e w2 ⟨rfl, hb⟩
  have hb2 := hb1.trans (hb.mono hb1.size)
  have HP := Lib.hid (And.intro (blk2 hb p0) hb2)
  clear hb hb1 p0 a0 a1 a2 af hb2
  obtain ⟨a0, a1, a2, af⟩ := cells3 HP.out.1
  by_cases hG : plainE c = 0
  case neg =>
    have hne : (plainE c == 0) = false := by simpa using hG
    have hne2 : (plainE c != 0) = true := by simpa using hG
    have HX := Lib.hid (show StepsR c r back = (plainE c, []) by unfold StepsR; rw [if_pos hG])
    obtain ⟨q, hq⟩ : ∃ q, plainE c = q := ⟨_, rfl⟩
    rw [hq] at hne hne2 HX ⊢
    clear hq hG
    go_wp2
    go_ret2
    exact ⟨_, by rw [HX.out]; rfl, by rw [HX.out]; exact App.nil _ _ _ _ _, HP.out.2⟩
  case pos =>
  have HG := Lib.hid (plainE_good.1 hG)
  have H0 := Lib.hid (show StepsR c r back = if r < 0 ∨ 44 ≤ r then (1, []) else if fitB r.toNat back = false then (7, []) else (0, (stepsL c r.toNat back).map Prod.fst) by unfold StepsR; rw [if_neg (by rw [hG]; decide)])
  rw [hG]
  clear hG
  by_cases hr : r < 0 ∨ 44 ≤ r
  · have HX := Lib.hid (show StepsR c r back = (1, []) by rw [H0.out, if_pos hr])
    rcases hr with hr | hr
    · have h1 : decide (r < 0) = true := decide_eq_true hr
      go_wp2
      go_ret2
      exact ⟨_, by rw [HX.out]; rfl, by rw [HX.out]; exact App.nil _ _ _ _ _, HP.out.2⟩
    · have h1 : decide (r < 0) = false := by simpa using (by omega : 0 ≤ r)
      have h2 : decide (44 ≤ r) = true := decide_eq_true hr
      go_wp2
      go_ret2
      exact ⟨_, by rw [HX.out]; rfl, by rw [HX.out]; exact App.nil _ _ _ _ _, HP.out.2⟩
  obtain ⟨i, rfl⟩ : ∃ i : Nat, r = i := ⟨r.toNat, by omega⟩
  have hi : i < 44 := by omega
  have h1 : decide ((i : Int) < 0) = false := by simp
  have h2 : decide (44 ≤ (i : Int)) = false := by simp; omega
  have H1 := Lib.hid (show StepsR c i back = if fitB i back = false then (7, []) else (0, (stepsL c i back).map Prod.fst) by rw [H0.out, if_neg hr, Int.toNat_natCast])
  clear H0 hr
  obtain ⟨q, hq⟩ : ∃ q, decide (i = 43) = q := ⟨_, rfl⟩
  have hq1 : ((i : Int) == 43) = q := by rw [← hq, Bool.eq_iff_iff]; simp; omega
  have HF := Lib.hid (show fitB i back = !(q && back) by unfold fitB; rw [hq])
  have hc := rFitting_any A k c i back w2 (HH.out.bG HP.out.2) hk HG.out hi
  clear hq
  cases hqb : q && back with
  | true =>
    obtain ⟨rfl, rfl⟩ := Bool.and_eq_true_iff.1 hqb
    have HX := Lib.hid (show StepsR c i true = (7, []) by rw [H1.out, if_pos (by rw [HF.out]; rfl)])
    clear hc hqb
    go_wp2
    go_ret2
    exact ⟨_, by rw [HX.out]; rfl, by rw [HX.out]; exact App.nil _ _ _ _ _, HP.out.2⟩
  | false =>
    have hfb : fitB i back = true := by rw [HF.out, hqb]; rfl
    have HX := Lib.hid (show StepsR c i back = (0, fitR c i back) by rw [H1.out, if_neg (by rw [hfb]; decide), fit_eq hi hfb HG.out])
    have hbk : q = false ∨ q = true ∧ back = false := by
      cases q with
      | false => exact .inl rfl
      | true => exact .inr ⟨rfl, by simpa using hqb⟩
    clear hfb hqb HF
    rcases hbk with rfl | ⟨rfl, rfl⟩
    all_goals
      go_wp2_with fail
      refine hc.mono ?_
      clear hc
      rintro e w9 ⟨v, rfl, ho, hb⟩
      have HO := Lib.hid (And.intro (ho.imp (E' := EMo 3 w.heap.size) HP.out.2.size fun x cs ⟨v, e, hv⟩ => ⟨v, e, hv.imp HP.out.2.size fun _ _ h => h⟩) (HP.out.2.trans (hb.mono HP.out.2.size)))
      clear ho hb
      go_wp2
      go_ret2
      exact ⟨_, by rw [HX.out]; rfl, by rw [HX.out]; exact HO.out.1, HO.out.2⟩
end Go.Proofs.YtfommmijojfdbaaGreatDoor
