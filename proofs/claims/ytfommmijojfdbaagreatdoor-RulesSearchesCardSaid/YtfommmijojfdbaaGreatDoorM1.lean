/- The law's told: steps are compared, and spoiled. -/
import Derived.Test.YtfommmijojfdbaaGreatDoorZ20
import Derived.Test.YtfommmijojfdbaaGreatDoorLF
set_option linter.all false
namespace Go.Proofs.YtfommmijojfdbaaGreatDoor
open Go.RowKit
theorem App.eclrM {B : Nat} {W : World} {v : Value} {l : List M} (h : App (EMo 3 B) 27 4 B W v l) : App (EClrM B) 27 4 B W v l := by
  refine h.imp (Nat.le_refl _) fun s cs ⟨v, e, hp⟩ => ?_
  obtain ⟨A, c, e2, _⟩ := hp.form
  exact ⟨A, c, by rw [e, e2], by rw [← e2]; exact hp.clr⟩

set_option maxRecDepth 100000 in
set_option maxHeartbeats 4000000 in
theorem told_any (B : Nat) (A D : Option Addr) (k m : Nat) (l d : List M) (e1 e2 : Int) (w : World) (h : App (EMo 3 B) 27 4 B w (.slice A l.length k) l) (hl : l.length ≤ 1000000) (hg : ∀ s ∈ l, s.wires.length ≤ 1000000) (h' : RdM w D d) (hB : B ≤ w.heap.size) :
    Calls Tryz.prog 25 #[.slice A l.length k, .slice D d.length m, .int .i64 e1, .int .i64 e2] w fun e w' => e = .returned (.bool (decide (e1 = e2) && decide (l = d))) ∧ Below B w w' := by
  have hzi : ∀ W, (zeroValue 3).run Tryz.prog W = .ok (.int .i64 0) W := fun W => by kernel_rfl
  have hzg : ∀ W, (zeroValue 27).run Tryz.prog W = .ok (.agg #[.int .i64 0, .int .i64 0, .bool false, .slice none 0 0]) W := fun W => by kernel_rfl
  have HZ := Lib.hid (And.intro hzi hzg)
  obtain ⟨A9, c9, e9, _, hr⟩ := h.rdM (by omega) (fun s hs => by have := hg s hs; omega)
  cases e9
  have hq := rEqual_any A D l.length d.length k m l d w hr h' rfl rfl
  obtain ⟨q, hqq⟩ : ∃ q, decide (l = d) = q := ⟨_, rfl⟩
  rw [hqq] at hq ⊢
  have HO := Lib.hid h.eclrM
  obtain ⟨q2, hq2⟩ : ∃ q2, (decide (e1 = e2) && q) = q2 := ⟨_, rfl⟩
  rw [hq2]
  have HQ := Lib.hid hq2
  clear hzi hzg h hr h' hg hqq hq2
  go_enter Tryz.func25, Tryz.ntmps25
  go_upto_region 1 with fail
  go_cut [9] (fun p wx => p = .bool q2 ∧ Hid (Below w.heap.size w wx))
  case first =>
    by_cases he : e1 = e2
    · subst he
      have HE := Lib.hid (show q = q2 by simpa using HQ.out)
      go_wp2_with fail
      refine hq.mono ?_
      clear hq
      rintro e w2 ⟨rfl, hb⟩
      have HB := Lib.hid hb
      clear hb
      go_wp2
      go_meet
      exact ⟨by rw [HE.out], HB⟩
    · have he' : (e1 == e2) = false := by simpa using he
      have HE := Lib.hid (show false = q2 by have := HQ.out; rwa [decide_eq_false he, Bool.false_and] at this)
      clear hq he
      go_wp2
      go_meet
      exact ⟨by rw [HE.out], Lib.hid (by (repeat (first|exact bR _ _|assumption|apply bN|apply bA|apply bD)))⟩
  case rest =>
  obtain ⟨rfl, HB⟩ := hcut
  clear hq
  clear HQ
  rename World => wc
  have HS := Lib.hid (show App (EClrM B) 27 4 B wc (.slice A l.length k) l ∧ Below B w wc from ⟨HO.out.below (EClrM.stays _) HB.out, HB.out.mono hB⟩)
  clear HO HB
  go_wp2
  go_loopw [11, 22] (fun _ i wr => ∃ j : Nat, j ≤ l.length ∧ i = .int .i64 j ∧ Hid (App (EClrM B) 27 4 B wr (.slice A l.length k) l ∧ Below B w wr)) (fun _ i _ => l.length - (intOf i).toNat)
  case atStart => exact ⟨0, Nat.zero_le _, rfl, HS⟩
  case round =>
    clear HS
    obtain ⟨j, hk, rfl, HI⟩ := hrel
    by_cases hlt : j < l.length
    · obtain ⟨A9, c9, e9, _, hr⟩ := HI.out.1.rd (by omega)
      cases e9
      obtain ⟨b, o, cs, rfl, ⟨A2, c2, rfl, hclr⟩, _, hcs⟩ := hr.2 j _ (List.getElem?_eq_getElem hlt)
      have g0 := hcs 0 _ rfl
      have g1 := hcs 1 _ rfl
      have g2 := hcs 2 _ rfl
      have g3 := hcs 3 _ rfl
      rw [Nat.add_zero] at g0
      obtain ⟨g, hg⟩ : ∃ g, l[j] = g := ⟨_, rfl⟩
      rw [hg] at g0 g1 g2 g3 hclr
      have hbx := below_alloc (Below.refl wr.heap.size wr) (.cells #[.int .i64 g.rule, .int .i64 g.at_, .bool g.back, .slice A2 g.wires.length c2] 27)
      have HC := Lib.hid (hclr.below hbx)
      have HBX := Lib.hid hbx
      have hold := olds wr
      have lb := cell_lt g0
      clear hcs hr hclr hbx hg
      obtain ⟨w3, hrun, hw3⟩ := run_clear_any (P := Tryz.prog) 3 25 0 (.int .i64 0) 1 Tryz.underlying25 HZ.out.1 rfl (by decide) (by decide) HC.out
      have HW := Lib.hid hw3
      clear hw3
      go_wp2
      go_roundw
      case rel =>
        obtain ⟨h1, h3⟩ := HI.out
        have hz := h3.size
        have hE : ∀ x cs, EClrM B (wr.alloc (.cells #[.int .i64 g.rule, .int .i64 g.at_, .bool g.back, .slice A2 g.wires.length c2] 27)) x cs → EClrM B w3 x cs := fun x cs ⟨A, c, e, h⟩ => ⟨A, c, e, h.wiped HW.out⟩
        refine ⟨j + 1, by omega, by go_num, Lib.hid ⟨(h1.below (EClrM.stays _) HBX.out).wiped HW.out (by decide) hE, ?_⟩⟩
        exact (h3.trans (HBX.out.mono (by omega))).trans HW.out.below
      case measure => simp [intOf]; omega
    · obtain ⟨h1, h3⟩ := HI.out
      have HC := Lib.hid (And.intro h1.clr h3)
      clear h1 h3 HI
      obtain ⟨w3, hrun, hw3⟩ := run_clear_any (P := Tryz.prog) 27 30 0 (.agg #[.int .i64 0, .int .i64 0, .bool false, .slice none 0 0]) 4 Tryz.underlying30 HZ.out.2 rfl (by decide) (by decide) HC.out.1
      have HW := Lib.hid hw3
      clear hw3
      go_wp2
      go_ret
      exact ⟨rfl, HC.out.2.trans HW.out.below⟩
end Go.Proofs.YtfommmijojfdbaaGreatDoor
