/- The reference's Check. -/
import Derived.Test.YtfommmijojfdbaaGreatDoorM2
import Derived.Test.YtfommmijojfdbaaGreatDoorX0
import Derived.Test.YtfommmijojfdbaaGreatDoorZ08
import Derived.Test.YtfommmijojfdbaaGreatDoorZ09
set_option linter.all false
namespace Go.Proofs.YtfommmijojfdbaaGreatDoor
open Go.RowKit

set_option maxRecDepth 1000000 in
set_option maxHeartbeats 8000000 in
theorem rCheck19_any (A B D : Option Addr) (k m n : Nat) (c d : C) (l : List M) (w : World) (h : RdG w A c.gates) (hk : c.gates.length ≤ k) (h' : RdM w B l) (h'' : RdG w D d.gates) (hn : d.gates.length ≤ n) :
    Calls Tryz.prog 27 #[.agg #[.int .i64 c.wires, .int .i64 c.bits, .slice A c.gates.length k], .slice B l.length m, .agg #[.int .i64 d.wires, .int .i64 d.bits, .slice D d.gates.length n]] w fun e w' => e = .returned (.tuple #[.int .i64 (CheckR c l d).1, .int .i64 (CheckR c l d).2]) ∧ Below w.heap.size w w' := by
  have HH := Lib.hid (And.intro h (And.intro h' h''))
  clear h h' h''
  go_enter Tryz.func27, Tryz.ntmps27
  go_upto_region 1 with fail
  obtain ⟨W1, hW1⟩ : ∃ W1, (w.alloc (.cells #[.int .i64 c.wires, .int .i64 c.bits, .slice A c.gates.length k] 24)).alloc (.cells #[.int .i64 d.wires, .int .i64 d.bits, .slice D d.gates.length n] 24) = W1 := ⟨_, rfl⟩
  have hb0 : Below w.heap.size w W1 := by rw [← hW1]; (repeat (first|exact bR _ _|assumption|apply bN|apply bA|apply bD))
  have p0 : W1.heap[w.heap.size]? = some (.cells #[.int .i64 c.wires, .int .i64 c.bits, .slice A c.gates.length k] 24) := by rw [← hW1]; exact alloc_old (blk_alloc _ _ _ rfl)
  have p1 : W1.heap[w.heap.size + 1]? = some (.cells #[.int .i64 d.wires, .int .i64 d.bits, .slice D d.gates.length n] 24) := by rw [← hW1]; exact blk_alloc _ _ _ (by simp)
  rw [hW1]
  clear hW1
  obtain ⟨a0, a1, a2, af⟩ := cells3 p0
  obtain ⟨b0, b1, b2, bf⟩ := cells3 p1
  have hp := rCheck4_any A k c W1 (HH.out.1.bG hb0) hk
  obtain ⟨q, hq⟩ : ∃ q, check c = q := ⟨_, rfl⟩
  rw [hq] at hp
  go_wp2_with fail
  refine hp.mono ?_
  clear hp
  rintro e w2 ⟨rfl, hb⟩
  replace hb0 := hb0.trans (hb.mono hb0.size)
  replace p0 := blk2 hb p0
  replace p1 := blk2 hb p1
  clear hb a0 a1 a2 af b0 b1 b2 bf
  by_cases hc : q = 0
  case neg =>
    have t1 : (q != 0) = true := by simpa using hc
    have HX := Lib.hid (show CheckR c l d = (0, q) by unfold CheckR; rw [hq, if_pos hc])
    clear hc hq p0 p1
    have HB := Lib.hid hb0
    clear hb0
    go_wp2
    exact bodyPost_ret (results_list (rs := [.tmp 6, .tmp 7]) rfl (by simp) (.tmp (.tmp .nil))) rfl ⟨by rw [show CheckR c l d = (0, q) from HX.out]; rfl, by have := HB.out; (repeat (first|exact bR _ _|assumption|apply bN|apply bA|apply bD))⟩
  case pos =>
  have HC := Lib.hid (show check c = 0 by rw [hq, hc])
  subst hc
  clear hq
  obtain ⟨a0, a1, a2, af⟩ := cells3 p0
  obtain ⟨b0, b1, b2, bf⟩ := cells3 p1
  have hp := rCheck4_any D n d w2 (HH.out.2.2.bG hb0) hn
  obtain ⟨q, hq⟩ : ∃ q, check d = q := ⟨_, rfl⟩
  rw [hq] at hp
  go_wp2_with fail
  refine hp.mono ?_
  clear hp
  rintro e w3 ⟨rfl, hb⟩
  replace hb0 := hb0.trans (hb.mono hb0.size)
  replace p0 := blk2 hb p0
  replace p1 := blk2 hb p1
  clear hb a0 a1 a2 af b0 b1 b2 bf
  by_cases hc : q = 0
  case neg =>
    have t1 : (q != 0) = true := by simpa using hc
    have HX := Lib.hid (show CheckR c l d = (0, q) by unfold CheckR; rw [HC.out, hq]; rw [if_neg (by simp), if_pos hc])
    clear hc hq p0 p1
    have HB := Lib.hid hb0
    clear hb0
    go_wp2
    exact bodyPost_ret (results_list (rs := [.tmp 6, .tmp 7]) rfl (by simp) (.tmp (.tmp .nil))) rfl ⟨by rw [show CheckR c l d = (0, q) from HX.out]; rfl, by have := HB.out; (repeat (first|exact bR _ _|assumption|apply bN|apply bA|apply bD))⟩
  case pos =>
  have HD := Lib.hid (show check d = 0 by rw [hq, hc])
  subst hc
  clear hq
  obtain ⟨a0, a1, a2, af⟩ := cells3 p0
  obtain ⟨b0, b1, b2, bf⟩ := cells3 p1
  have hp := rFollow_any A B k m c l w3 (HH.out.1.bG hb0) hk (HH.out.2.1.bM hb0)
  obtain ⟨⟨er, cc, ph⟩, hx⟩ : ∃ x, FollowR c l = x := ⟨_, rfl⟩
  rw [hx] at hp
  go_wp2_with fail
  refine hp.mono ?_
  clear hp
  rintro e w4 ⟨A4, c4, rfl, hc4, hr4, hb⟩
  dsimp only at hc4 hr4 ⊢
  replace hb0 := hb0.trans (hb.mono hb0.size)
  replace p1 := blk2 hb p1
  clear hb a0 a1 a2 af b0 b1 b2 bf p0
  by_cases hc : er = 0
  case neg =>
    have t1 : (er != 0) = true := by simpa using hc
    have HX := Lib.hid (show CheckR c l d = (0, er) by unfold CheckR; rw [HC.out, HD.out, hx]; rw [if_neg (by simp), if_neg (by simp), if_pos hc])
    clear hc hx p1 hr4 hc4
    have HB := Lib.hid hb0
    clear hb0
    go_wp2
    exact bodyPost_ret (results_list (rs := [.tmp 6, .tmp 7]) rfl (by simp) (.tmp (.tmp .nil))) rfl ⟨by rw [show CheckR c l d = (0, er) from HX.out]; rfl, by have := HB.out; (repeat (first|exact bR _ _|assumption|apply bN|apply bA|apply bD))⟩
  case pos =>
  subst hc
  obtain ⟨b0, b1, b2, bf⟩ := cells3 p1
  have hlp := blk_lt p1
  have hold := olds w4
  obtain ⟨q, hq⟩ : ∃ q, decide (cc = d) = q := ⟨_, rfl⟩
  have HX := Lib.hid (show CheckR c l d = if q = true then (ph, 0) else (0, 14) by
    unfold CheckR; rw [HC.out, HD.out, hx]; rw [if_neg (by simp), if_neg (by simp), if_neg (by simp)]
    rw [← hq]; by_cases he : cc = d <;> simp [he])
  have HR := Lib.hid hr4.rd
  clear hx hr4 hc4
  have HB0 := Lib.hid hb0
  clear hb0
  go_wp2_with fail
  obtain ⟨W5, hW5⟩ : ∃ W5, w4.alloc (.cells #[.int .i64 cc.wires, .int .i64 cc.bits, .slice A4 cc.gates.length c4] 24) = W5 := ⟨_, rfl⟩
  have hb5 : Below w4.heap.size w4 W5 := by rw [← hW5]; (repeat (first|exact bR _ _|assumption|apply bN|apply bA|apply bD))
  rw [hW5]
  clear hW5
  have hb0 := HB0.out.trans (hb5.mono HB0.out.size)
  have hp := rSame4_any A4 D c4 n cc d W5 (HR.out.bG hb5) (HH.out.2.2.bG hb0)
  rw [hq] at hp
  refine hp.mono ?_
  clear hp hq
  rintro e w6 ⟨rfl, hb⟩
  replace hb0 := hb0.trans (hb.mono hb0.size)
  clear hb hb5 b0 b1 b2 bf hlp hold p1
  cases q with
  | true =>
    have HB := Lib.hid hb0
    clear hb0
    go_wp2
    exact bodyPost_ret (results_list (rs := [.tmp 6, .tmp 7]) rfl (by simp) (.tmp (.tmp .nil))) rfl ⟨by rw [show CheckR c l d = (ph, 0) from HX.out]; rfl, by have := HB.out; (repeat (first|exact bR _ _|assumption|apply bN|apply bA|apply bD))⟩
  | false =>
    have HB := Lib.hid hb0
    clear hb0
    go_wp2
    exact bodyPost_ret (results_list (rs := [.tmp 6, .tmp 7]) rfl (by simp) (.tmp (.tmp .nil))) rfl ⟨by rw [show CheckR c l d = (0, 14) from HX.out]; rfl, by have := HB.out; (repeat (first|exact bR _ _|assumption|apply bN|apply bA|apply bD))⟩
end Go.Proofs.YtfommmijojfdbaaGreatDoor
