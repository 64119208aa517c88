/- The reference's rules: Search. -/
import Derived.Test.YtfommmijojfdbaaGreatDoorZ09
import Derived.Test.YtfommmijojfdbaaGreatDoorSB
import Derived.Test.YtfommmijojfdbaaGreatDoorF22
import Derived.Test.YtfommmijojfdbaaGreatDoorLF
import Derived.Test.YtfommmijojfdbaaGreatDoorZ34
import Derived.Test.YtfommmijojfdbaaGreatDoorZ37
import Derived.Deep.CutBlock
set_option linter.all false
namespace Go.Proofs.YtfommmijojfdbaaGreatDoor
open Go.RowKit
set_option maxRecDepth 100000 in
set_option maxHeartbeats 4000000 in
theorem rSame4_any (A B : Option Addr) (k m : Nat) (c d : C) (w : World) (h : RdG w A c.gates) (h' : RdG w B d.gates) :
    Calls Tryz.prog 71 #[.agg #[.int .i64 c.wires, .int .i64 c.bits, .slice A c.gates.length k], .agg #[.int .i64 d.wires, .int .i64 d.bits, .slice B d.gates.length m]] w fun e w' => e = .returned (.bool (decide (c = d))) ∧ Below w.heap.size w w' := by
  have hl := h.1
  have hl' := h'.1
  have HH := Lib.hid (And.intro h h')
  clear h h'
  go_enter Tryz.func71, Tryz.ntmps71
  by_cases h1 : c.wires = d.wires
  case neg =>
    have t1 : (c.wires != d.wires) = true := by simpa using h1
    have H1 := Lib.hid h1
    clear h1
    go_wp2
    go_ret
    exact ⟨ret_bool (by rw [eq_comm, decide_eq_false_iff_not]; exact fun e => H1.out (by rw [e])), by (repeat (first|exact bR _ _|assumption|apply bN|apply bA|apply bD))⟩
  have t1 : (c.wires != d.wires) = false := by simpa using h1
  by_cases h2 : c.bits = d.bits
  case neg =>
    have t2 : (c.bits != d.bits) = true := by simpa using h2
    have H2 := Lib.hid h2
    clear h1 h2
    go_wp2
    go_ret
    exact ⟨ret_bool (by rw [eq_comm, decide_eq_false_iff_not]; exact fun e => H2.out (by rw [e])), by (repeat (first|exact bR _ _|assumption|apply bN|apply bA|apply bD))⟩
  have t2 : (c.bits != d.bits) = false := by simpa using h2
  by_cases h4 : c.gates.length = d.gates.length
  case neg =>
    have t4 : ((c.gates.length : Int) != (d.gates.length : Int)) = true := by simp; omega
    have H4 := Lib.hid h4
    clear h1 h2 h4
    go_wp2
    go_ret
    exact ⟨ret_bool (by rw [eq_comm, decide_eq_false_iff_not]; exact fun e => H4.out (by rw [e])), by (repeat (first|exact bR _ _|assumption|apply bN|apply bA|apply bD))⟩
  have t4 : ((c.gates.length : Int) != (d.gates.length : Int)) = false := by simp; omega
  have hle : c.gates.length ≤ d.gates.length := by omega
  have HS := Lib.hid (And.intro h1 (And.intro h2 h4))
  clear h1 h2 h4
  go_wp2
  obtain ⟨W1, hW1⟩ : ∃ W1, (w.alloc (.cells #[.int .i64 c.wires, .int .i64 c.bits, .slice A c.gates.length k] 24)).alloc (.cells #[.int .i64 d.wires, .int .i64 d.bits, .slice B d.gates.length m] 24) = W1 := ⟨_, rfl⟩
  have hb1 : Below w.heap.size w W1 := by rw [← hW1]; (repeat (first|exact bR _ _|assumption|apply bN|apply bA|apply bD))
  have p0 : W1.heap[w.heap.size]? = some (.cells #[.int .i64 c.wires, .int .i64 c.bits, .slice A c.gates.length k] 24 (0, 0)) := by rw [← hW1]; exact fst2 _ _ _
  have p1 : W1.heap[w.heap.size + 1]? = some (.cells #[.int .i64 d.wires, .int .i64 d.bits, .slice B d.gates.length m] 24 (0, 0)) := by rw [← hW1]; exact snd2 _ _ _
  rw [hW1]
  clear hW1 t1 t2 t4
  go_loopw [5] (fun i wr => ∃ j : Nat, j ≤ c.gates.length ∧ i = .int .i64 j ∧ Hid (c.gates.take j = d.gates.take j) ∧ Hid (wr.heap[w.heap.size]? = some (.cells #[.int .i64 c.wires, .int .i64 c.bits, .slice A c.gates.length k] 24 (0, 0)) ∧ wr.heap[w.heap.size + 1]? = some (.cells #[.int .i64 d.wires, .int .i64 d.bits, .slice B d.gates.length m] 24 (0, 0))) ∧ Below w.heap.size w wr) (fun i _ => c.gates.length - (intOf i).toNat)
  case atStart => exact ⟨0, Nat.zero_le _, rfl, Lib.hid (by simp), Lib.hid ⟨p0, p1⟩, hb1⟩
  case round =>
    clear hb1 p0 p1
    obtain ⟨j, hj, rfl, HI, HP, hb⟩ := hrel
    obtain ⟨k0, k1, k2, kf⟩ := cells3 HP.out.1
    obtain ⟨m0, m1, m2, mf⟩ := cells3 HP.out.2
    by_cases hlt : j < c.gates.length
    · have hlt' : j < d.gates.length := by omega
      obtain ⟨b, o, B0, d0, rfl, g0, g1, g2, g3, hd, hrd⟩ := (HH.out.1.bG hb).gate j hlt
      obtain ⟨b', o', B1, d1, rfl, i0, i1, i2, i3, hd', hrd'⟩ := (HH.out.2.bG hb).gate j hlt'
      have HB := Lib.hid (And.intro hrd (And.intro hrd' hb))
      obtain ⟨g, hg⟩ : ∃ g, c.gates[j] = g := ⟨_, rfl⟩
      obtain ⟨h, hh⟩ : ∃ g, d.gates[j] = g := ⟨_, rfl⟩
      have HG := Lib.hid (And.intro hg hh)
      rw [hg] at g0 g1 g2 g3 hd HB
      rw [hh] at i0 i1 i2 i3 hd' HB
      have hbr0 : Below wr.heap.size wr wr.drew := by (repeat (first|exact bR _ _|assumption|apply bN|apply bA|apply bD))
      clear hrd hrd' hb hg hh hd hd'
      obtain ⟨q, hq⟩ : ∃ q, decide (g = h) = q := ⟨_, rfl⟩
      go_wp2
      refine wp_region_sg (by kernel_rfl) [0, 1, 2, 3, 4, 5, 6, 7, 8, 9, 10, 11] (by kernel_rfl) (by kernel_rfl) (by kernel_rfl) ?_
      refine SG.p (v := ?v1_6_0) rfl rfl rfl (fun W => ?h1_6_0) ?r1_6_0
      case h1_6_0 => (first|(go_simp;done)|(go_simp;with_reducible rfl))
      simp only [Act.put, pA, pB, pC]
      refine SG.l (v := ?v1_6_1) rfl rfl rfl ?h1_6_1 ?r1_6_1
      case h1_6_1 => (first|(go_simp;done)|(go_simp;with_reducible rfl))
      simp only [Act.put, pA, pB, pC]
      refine SG.p (v := ?v1_6_2) rfl rfl rfl (fun W => ?h1_6_2) ?r1_6_2
      case h1_6_2 => (first|(go_simp;done)|(go_simp;with_reducible rfl))
      simp only [Act.put, pA, pB, pC]
      refine SG.p (v := ?v1_6_3) rfl rfl rfl (fun W => ?h1_6_3) ?r1_6_3
      case h1_6_3 => (first|(go_simp;done)|(go_simp;with_reducible rfl))
      simp only [Act.put, pA, pB, pC]
      refine SG.l (v := ?v1_6_4) rfl rfl rfl ?h1_6_4 ?r1_6_4
      case h1_6_4 => (first|(go_simp;done)|(go_simp;with_reducible rfl))
      simp only [Act.put, pA, pB, pC]
      refine SG.p (v := ?v1_6_5) rfl rfl rfl (fun W => ?h1_6_5) ?r1_6_5
      case h1_6_5 => (first|(go_simp;done)|(go_simp;with_reducible rfl))
      simp only [Act.put, pA, pB, pC]
      refine SG.l (v := ?v1_6_6) rfl rfl rfl ?h1_6_6 ?r1_6_6
      case h1_6_6 => (first|(go_simp;done)|(go_simp;with_reducible rfl))
      simp only [Act.put, pA, pB, pC]
      refine SG.p (v := ?v1_6_7) rfl rfl rfl (fun W => ?h1_6_7) ?r1_6_7
      case h1_6_7 => (first|(go_simp;done)|(go_simp;with_reducible rfl))
      simp only [Act.put, pA, pB, pC]
      refine SG.p (v := ?v1_6_8) rfl rfl rfl (fun W => ?h1_6_8) ?r1_6_8
      case h1_6_8 => (first|(go_simp;done)|(go_simp;with_reducible rfl))
      simp only [Act.put, pA, pB, pC]
      refine SG.l (v := ?v1_6_9) rfl rfl rfl ?h1_6_9 ?r1_6_9
      case h1_6_9 => (first|(go_simp;done)|(go_simp;with_reducible rfl))
      simp only [Act.put, pA, pB, pC]
      refine SG.c rfl rfl rfl (by first|(go_simp;done)|(go_simp;with_reducible rfl)|(go_simp;exact ⟨⟨rfl, rfl⟩, rfl⟩)) ?_
      refine (rSameGate_any B0 B1 d0 d1 g h _ (HB.out.1.bI (by (repeat (first|exact bR _ _|assumption|apply bN|apply bA|apply bD)))) (HB.out.2.1.bI (by (repeat (first|exact bR _ _|assumption|apply bN|apply bA|apply bD))))).mono ?_
      rintro e w2 ⟨rfl, hb2⟩
      rw [hq]
      have hbr : Below wr.heap.size wr w2 := hbr0.trans hb2
      replace k2 := kc hbr k2
      replace m2 := kc hbr m2
      replace g0 := kc hbr g0
      replace g1 := kc hbr g1
      replace g2 := kc hbr g2
      replace g3 := kc hbr g3
      replace i0 := kc hbr i0
      replace i1 := kc hbr i1
      replace i2 := kc hbr i2
      replace i3 := kc hbr i3
      have HB2 := Lib.hid (And.intro (HB.out.2.2.trans (hbr.mono HB.out.2.2.size)) (And.intro (blkF hbr HP.out.1) (blkF hbr HP.out.2)))
      clear hb2 hbr hbr0
      refine ⟨_, rfl, ?_, ?_⟩
      · exact ⟨(nw (by kernel_rfl)), (fun _ => ⟨_, drop_at rfl, by (first|(go_simp;done)|(go_simp;with_reducible rfl))⟩), (nw (by kernel_rfl)), (fun _ => ⟨_, drop_at rfl, by (first|(go_simp;done)|(go_simp;with_reducible rfl))⟩), trivial⟩
      simp only [Act.put, pA, pB, pC]
      refine SG.p (v := ?v1_6_11) rfl rfl rfl (fun W => ?h1_6_11) ?r1_6_11
      case h1_6_11 => (first|(go_simp;done)|(go_simp;with_reducible rfl))
      simp only [Act.put, pA, pB, pC]
      simp only [SG]
      cases q
      · have HQ := Lib.hid hq
        clear hq
        go_wp2
        go_ret
        exact ⟨ret_bool (by
          rw [eq_comm, decide_eq_false_iff_not]
          intro e
          have h1 := HQ.out
          rw [decide_eq_false_iff_not, ← HG.out.1, ← HG.out.2] at h1
          exact h1 (by simp only [e])), HB2.out.1⟩
      · have HQ := Lib.hid hq
        clear hq
        go_wp2
        go_roundw
        case rel => exact ⟨j + 1, by omega, by go_num, Lib.hid (by
          have h1 := HQ.out
          rw [decide_eq_true_eq, ← HG.out.1, ← HG.out.2] at h1
          rw [List.take_succ_eq_append_getElem hlt, List.take_succ_eq_append_getElem hlt', HI.out, h1]), Lib.hid HB2.out.2, HB2.out.1⟩
        case measure => simp [intOf]; omega
    · go_wp2
      go_ret
      exact ⟨ret_bool (by
        have h5 := HI.out
        have h6 := HS.out
        rw [List.take_of_length_le (by omega), List.take_of_length_le (by omega)] at h5
        rw [eq_comm, decide_eq_true_eq]
        obtain ⟨x1, x2, x3⟩ := c
        obtain ⟨y1, y2, y3⟩ := d
        simp_all), hb⟩
end Go.Proofs.YtfommmijojfdbaaGreatDoor
namespace Go.Proofs.YtfommmijojfdbaaGreatDoor
open Go.RowKit

section
variable {P : Program} {ops : Array Oper}
theorem ST.qg {Q : Act → World → Prop} {i : Nat} {t : Ord_} {ls : List (Nat × Value)} {a : Act} {w : World} {o : Oper} {v : Value} {tl : List Oper} (h : ST P ops Q t ls (a.put o.dst v) w) (ho : ops.toList.drop i = o :: tl := by rfl) (hk : kindOp o.op = 0 := by rfl) (hw : Region.wanted o (yielded ops a.tmps) = true := by first|rfl|(simp [Region.wanted, yielded, *] <;> fail))
    (hv : ∀ W, (execOp a.eval o).run P W = .ok (.value v) W := by intro _; first|(go_simp;done)|(go_simp;with_reducible rfl)) : ST P ops Q (.op i t) ls a w := ST.p ho hk hw hv h
theorem ST.mg {Q : Act → World → Prop} {i : Nat} {t : Ord_} {ls : List (Nat × Value)} {a : Act} {w : World} {o : Oper} {v : Value} {tl : List Oper} (h : ST P ops Q t ((i, v) :: ls) (a.put o.dst v) w) (ho : ops.toList.drop i = o :: tl := by rfl) (hk : kindOp o.op = 1 := by rfl) (hw : Region.wanted o (yielded ops a.tmps) = true := by first|rfl|(simp [Region.wanted, yielded, *] <;> fail))
    (hv : (execOp a.eval o).run P w = .ok (.value v) w := by first|(go_simp;done)|(go_simp;with_reducible rfl)) : ST P ops Q (.op i t) ls a w := ST.l ho hk hw hv h
theorem ST.ng {Q : Act → World → Prop} {i : Nat} {t : Ord_} {ls : List (Nat × Value)} {a : Act} {w : World} {o : Oper} {tl : List Oper} (h : ST P ops Q t ls (a.put o.dst undef) w) (ho : ops.toList.drop i = o :: tl := by rfl) (hw : Region.wanted o (yielded ops a.tmps) = false := by first|rfl|(simp [Region.wanted, yielded, *] <;> fail)) : ST P ops Q (.op i t) ls a w := ST.s ho hw h
end
end Go.Proofs.YtfommmijojfdbaaGreatDoor
namespace Go.Proofs.YtfommmijojfdbaaGreatDoor
open Go.RowKit

def allF (c : C) (i : Nat) : List M := fitR c i false ++ if i = 43 then [] else fitR c i true
def allR (c : C) : List M := (List.range 44).flatMap (allF c)
theorem fitR_small {c : C} {i : Nat} {back : Bool} (hG : Good c) (hi : i < 44) : (fitR c i back).length ≤ 210000 ∧ ∀ s ∈ fitR c i back, s.wires.length ≤ 3 := by
  have hgl := hG.len
  have h1 := fm_len (k := 1728) (f := fitAt c i back) (l := List.range (c.gates.length + 1)) fun y _ => fitAt_len hG hi
  rw [List.length_range] at h1
  refine ⟨by unfold fitR; omega, fun s hs => ?_⟩
  obtain ⟨x, _, hx⟩ := List.mem_flatMap.1 hs
  exact fitAt_wires hG hi s hx
theorem allF_small {c : C} {i : Nat} (hG : Good c) (hi : i < 44) : (allF c i).length ≤ 420000 ∧ ∀ s ∈ allF c i, s.wires.length ≤ 3 := by
  obtain ⟨h1, h2⟩ := fitR_small (back := false) hG hi
  obtain ⟨h3, h4⟩ := fitR_small (back := true) hG hi
  unfold allF
  split
  · simp only [List.append_nil]
    exact ⟨by omega, h2⟩
  · refine ⟨by rw [List.length_append]; omega, fun s hs => ?_⟩
    rcases List.mem_append.1 hs with hs | hs
    · exact h2 s hs
    · exact h4 s hs
theorem allR_part {c : C} (hG : Good c) {j : Nat} (hj : j ≤ 44) : ((List.range j).flatMap (allF c)).length ≤ 20000000 ∧ ∀ s ∈ (List.range j).flatMap (allF c), s.wires.length ≤ 3 := by
  have h1 := fm_len (k := 420000) (f := allF c) (l := List.range j) fun y hy => (allF_small hG (by have := List.mem_range.1 hy; omega)).1
  rw [List.length_range] at h1
  refine ⟨by have := Nat.mul_le_mul_right 420000 hj; omega, fun s hs => ?_⟩
  obtain ⟨x, hx, hs⟩ := List.mem_flatMap.1 hs
  exact (allF_small hG (by have := List.mem_range.1 hx; omega)).2 s hs

set_option maxRecDepth 1000000 in
set_option maxHeartbeats 8000000 in
theorem rAll_any (A : Option Addr) (k : Nat) (c : C) (w : World) (h : RdG w A c.gates) (hk : c.gates.length ≤ k) (hG : Good c) :
    Calls Tryz.prog 124 #[.agg #[.int .i64 c.wires, .int .i64 c.bits, .slice A c.gates.length k]] w fun e w' => ∃ v, e = .returned v ∧ App (EMo 3 w.heap.size) 27 4 w.heap.size w' v (allR c) ∧ Below w.heap.size w w' := by
  have HG := Lib.hid (And.intro hG h)
  clear hG h
  go_enter Tryz.func124, Tryz.ntmps124
  go_upto_region 1 with fail
  obtain ⟨W1, hW1⟩ : ∃ W1, w.alloc (.cells #[.int .i64 c.wires, .int .i64 c.bits, .slice A c.gates.length k] 24) = W1 := ⟨_, rfl⟩
  have hb1 : Below w.heap.size w W1 := by rw [← hW1]; exact bl
  have p0 : W1.heap[w.heap.size]? = some (.cells #[.int .i64 c.wires, .int .i64 c.bits, .slice A c.gates.length k] 24 (0, 0)) := by rw [← hW1]; exact blk_alloc _ _ _ rfl
  rw [hW1]
  clear hW1
  have HP := Lib.hid (And.intro p0 hb1)
  clear p0 hb1
  go_wp2
  go_loopw [3, 4] (fun v r wr => ∃ i : Nat, i ≤ 44 ∧ r = .int .i64 i ∧ Hid (App (EMo 3 W1.heap.size) 27 4 W1.heap.size wr v ((List.range i).flatMap (allF c))) ∧ Below W1.heap.size W1 wr) (fun _ r _ => 44 - (intOf r).toNat)
  case atStart => exact ⟨0, Nat.zero_le _, rfl, Lib.hid (App.nil _ _ _ _ _), Below.refl _ _⟩
  case round =>
    obtain ⟨i, hi, rfl, HA, hB⟩ := hrel
    rename World => wr
    obtain ⟨a0, a1, a2, af⟩ := cells3 (blk2 hB HP.out.1)
    have la := blk_lt (blk2 hB HP.out.1)
    by_cases hlt : i < 44
    · obtain ⟨xs, hxs⟩ : ∃ xs, (List.range i).flatMap (allF c) = xs := ⟨_, rfl⟩
      have hxl : xs.length ≤ 20000000 := by rw [← hxs]; exact (allR_part HG.out.1 hi).1
      rw [hxs] at HA
      have HX := Lib.hid hxs
      obtain ⟨A6, c6, rfl, _⟩ := HA.out.form
      clear hxs
      by_cases h43 : i = 43
      · have hne : ((i : Int) != 43) = false := by simp; omega
        have HN := Lib.hid h43
        clear h43
        have hc := rFitting_any A k c i false wr (HG.out.2.bG (HP.out.2.trans (hB.mono HP.out.2.size))) hk HG.out.1 hlt
        obtain ⟨ys, hys⟩ : ∃ qq, fitR c i false = qq := ⟨_, rfl⟩
        have hyl : ys.length ≤ 210000 := by rw [← hys]; exact (fitR_small HG.out.1 hlt).1
        rw [hys] at hc
        obtain ⟨zs, hzs⟩ : ∃ qq, xs ++ ys = qq := ⟨_, rfl⟩
        have hzl : zs.length ≤ xs.length + 210000 := by rw [← hzs, List.length_append]; omega
        have HE1 := Lib.hid (show xs ++ fitR c i false = zs by rw [hys, hzs])
        clear hys
        go_wp2_with fail
        refine hc.mono ?_
        clear hc
        rintro e w2 ⟨v, rfl, ho, hb⟩
        have hz := hB.size
        have hB2 := hB.trans (hb.mono hz)
        have ha := HA.out.below (EMo.stays _ _) hb
        have hzw := hb.size
        obtain ⟨A7, c7, rfl, _, hrd⟩ := App.rd ho (by omega)
        have HR := Lib.hid (And.intro ha hrd)
        clear ho hb ha hrd a0 a1 a2 af la
        go_wp2_with (at_builtin; refine wp_apps (E := EMo 3 W1.heap.size) (E' := EMo 3 wr.heap.size) (W := w2) (EMo.one _ _) (fun x cs ⟨v, e, hv⟩ => ⟨v, e, hv.imp hz fun _ _ h => h⟩) 27 4 W1.heap.size rfl _ _ 30 (.agg #[.int .i64 0, .int .i64 0, .bool false, .slice none 0 0]) 48 rfl Tryz.underlying30 (by kernel_rfl) rfl (by decide) (by decide) (.slice A6 xs.length c6) xs ys A7 c7 rfl rfl HR.out.2 HR.out.1 (by omega) (by omega) (fun w1 n cs hown hg x cs ⟨v, e, hv⟩ => ⟨v, e, hv.other hown hg (by decide)⟩) ?_; intro v5 w5 ho5 hg5; rw [hzs] at ho5; obtain ⟨A8, c8, hv8, _⟩ := ho5.form; subst hv8; have HO5 := Lib.hid ho5; have hB5 : Below W1.heap.size W1 w5 := HR.out.1.grows hg5 hB2 (Nat.le_refl _) (by omega); obtain ⟨a0, a1, a2, af⟩ := cells3 (blk2 hB5 HP.out.1); have la := blk_lt (blk2 hB5 HP.out.1); clear ho5 hg5 hB2 hz hzw hzs HR)
        go_roundw
        case rel => exact ⟨i + 1, by omega, by go_num, Lib.hid (by rw [List.range_succ, List.flatMap_append, List.flatMap_singleton, HX.out, allF, if_pos HN.out, List.append_nil, HE1.out]; exact HO5.out), hB5⟩
        case measure => simp [intOf]; omega
      · have hne : ((i : Int) != 43) = true := by simp; omega
        have HN := Lib.hid h43
        clear h43
        have hc := rFitting_any A k c i false wr (HG.out.2.bG (HP.out.2.trans (hB.mono HP.out.2.size))) hk HG.out.1 hlt
        obtain ⟨ys, hys⟩ : ∃ qq, fitR c i false = qq := ⟨_, rfl⟩
        have hyl : ys.length ≤ 210000 := by rw [← hys]; exact (fitR_small HG.out.1 hlt).1
        rw [hys] at hc
        obtain ⟨zs, hzs⟩ : ∃ qq, xs ++ ys = qq := ⟨_, rfl⟩
        have hzl : zs.length ≤ xs.length + 210000 := by rw [← hzs, List.length_append]; omega
        have HE1 := Lib.hid (show xs ++ fitR c i false = zs by rw [hys, hzs])
        clear hys
        go_wp2_with fail
        refine hc.mono ?_
        clear hc
        rintro e w2 ⟨v, rfl, ho, hb⟩
        have hz := hB.size
        have hB2 := hB.trans (hb.mono hz)
        have ha := HA.out.below (EMo.stays _ _) hb
        have hzw := hb.size
        obtain ⟨A7, c7, rfl, _, hrd⟩ := App.rd ho (by omega)
        have HR := Lib.hid (And.intro ha hrd)
        clear ho hb ha hrd a0 a1 a2 af la
        go_wp2_with (at_builtin; refine wp_apps (E := EMo 3 W1.heap.size) (E' := EMo 3 wr.heap.size) (W := w2) (EMo.one _ _) (fun x cs ⟨v, e, hv⟩ => ⟨v, e, hv.imp hz fun _ _ h => h⟩) 27 4 W1.heap.size rfl _ _ 30 (.agg #[.int .i64 0, .int .i64 0, .bool false, .slice none 0 0]) 48 rfl Tryz.underlying30 (by kernel_rfl) rfl (by decide) (by decide) (.slice A6 xs.length c6) xs ys A7 c7 rfl rfl HR.out.2 HR.out.1 (by omega) (by omega) (fun w1 n cs hown hg x cs ⟨v, e, hv⟩ => ⟨v, e, hv.other hown hg (by decide)⟩) ?_; intro v5 w5 ho5 hg5; rw [hzs] at ho5; obtain ⟨A8, c8, hv8, _⟩ := ho5.form; subst hv8; have HO5 := Lib.hid ho5; have hB5 : Below W1.heap.size W1 w5 := HR.out.1.grows hg5 hB2 (Nat.le_refl _) (by omega); obtain ⟨a0, a1, a2, af⟩ := cells3 (blk2 hB5 HP.out.1); have la := blk_lt (blk2 hB5 HP.out.1); clear ho5 hg5 hB2 hz hzw hzs HR)
        have hzl2 := hzl
        have hc := rFitting_any A k c i true w5 (HG.out.2.bG (HP.out.2.trans (hB5.mono HP.out.2.size))) hk HG.out.1 hlt
        obtain ⟨ys2, hys⟩ : ∃ qq, fitR c i true = qq := ⟨_, rfl⟩
        have hyl : ys2.length ≤ 210000 := by rw [← hys]; exact (fitR_small HG.out.1 hlt).1
        rw [hys] at hc
        obtain ⟨zs2, hzs⟩ : ∃ qq, zs ++ ys2 = qq := ⟨_, rfl⟩
        have hzl : zs2.length ≤ zs.length + 210000 := by rw [← hzs, List.length_append]; omega
        have HE2 := Lib.hid (show zs ++ fitR c i true = zs2 by rw [hys, hzs])
        clear hys
        go_wp2_with fail
        refine hc.mono ?_
        clear hc
        rintro e w2 ⟨v, rfl, ho, hb⟩
        have hz := hB5.size
        have hB2 := hB5.trans (hb.mono hz)
        have ha := HO5.out.below (EMo.stays _ _) hb
        have hzw := hb.size
        obtain ⟨A7, c7, rfl, _, hrd⟩ := App.rd ho (by omega)
        have HR := Lib.hid (And.intro ha hrd)
        clear ho hb ha hrd a0 a1 a2 af la
        go_wp2_with (at_builtin; refine wp_apps (E := EMo 3 W1.heap.size) (E' := EMo 3 w5.heap.size) (W := w2) (EMo.one _ _) (fun x cs ⟨v, e, hv⟩ => ⟨v, e, hv.imp hz fun _ _ h => h⟩) 27 4 W1.heap.size rfl _ _ 30 (.agg #[.int .i64 0, .int .i64 0, .bool false, .slice none 0 0]) 48 rfl Tryz.underlying30 (by kernel_rfl) rfl (by decide) (by decide) (.slice A8 zs.length c8) zs ys2 A7 c7 rfl rfl HR.out.2 HR.out.1 (by omega) (by omega) (fun w1 n cs hown hg x cs ⟨v, e, hv⟩ => ⟨v, e, hv.other hown hg (by decide)⟩) ?_; intro v5 w6 ho5 hg5; rw [hzs] at ho5; obtain ⟨A9, c9, hv8, _⟩ := ho5.form; subst hv8; have HO6 := Lib.hid ho5; have hB5 : Below W1.heap.size W1 w6 := HR.out.1.grows hg5 hB2 (Nat.le_refl _) (by omega); obtain ⟨a0, a1, a2, af⟩ := cells3 (blk2 hB5 HP.out.1); have la := blk_lt (blk2 hB5 HP.out.1); clear ho5 hg5 hB2 hz hzw hzs HR)
        go_roundw
        case rel => exact ⟨i + 1, by omega, by go_num, Lib.hid (by rw [List.range_succ, List.flatMap_append, List.flatMap_singleton, HX.out, allF, if_neg HN.out, ← List.append_assoc, HE1.out, HE2.out]; exact HO6.out), hB5⟩
        case measure => simp [intOf]; omega
    · obtain rfl : i = 44 := by omega
      have HO := Lib.hid (show App (EMo 3 W1.heap.size) 27 4 W1.heap.size wr u3 (allR c) from HA.out)
      go_wp2
      go_ret
      have hz := HP.out.2.size
      exact ⟨_, rfl, HO.out.imp hz fun x cs ⟨v, e, hv⟩ => ⟨v, e, hv.imp hz fun _ _ h => h⟩, HP.out.2.trans (hB.mono hz)⟩
end Go.Proofs.YtfommmijojfdbaaGreatDoor
namespace Go.Proofs.YtfommmijojfdbaaGreatDoor
open Go.RowKit

def firstN : List G → List G → Nat
  | x :: xs, y :: ys => if x = y then firstN xs ys + 1 else 0
  | _, _ => 0
def skipB (c d : C) (i : Nat) (back : Bool) : Bool := (((toG i back).length : Int) - ((fromG i back).length : Int) != (d.gates.length : Int) - (c.gates.length : Int)) || (decide (i = 43) && back)
def lastOk (c d : C) (s : M) : Bool := decide (s.at_ ≤ (firstN c.gates d.gates : Int)) && decide ((applyR c s).2.1 = d)
def lastAt (c d : C) (i : Nat) (back : Bool) : Option M := if skipB c d i back = true then none else (fitR c i back).find? (lastOk c d)
def lastF (c d : C) (i : Nat) : Option M := [false, true].findSome? (lastAt c d i)
def lastR (c d : C) : Option M := (List.range 44).findSome? (lastF c d)
theorem firstN_step {xs ys : List G} {x : Nat} (hx : x < xs.length) (hy : x < ys.length) : firstN (xs.drop x) (ys.drop x) = if xs[x] = ys[x] then firstN (xs.drop (x + 1)) (ys.drop (x + 1)) + 1 else 0 := by
  rw [List.drop_eq_getElem_cons hx, List.drop_eq_getElem_cons hy]; rfl
theorem firstN_end {xs ys : List G} {x : Nat} (h : xs.length ≤ x ∨ ys.length ≤ x) : firstN (xs.drop x) (ys.drop x) = 0 := by
  rcases h with h | h
  · rw [List.drop_eq_nil_of_le h]; rfl
  · rw [List.drop_eq_nil_of_le h]; cases xs.drop x <;> rfl
theorem firstN_le : ∀ (xs ys : List G), firstN xs ys ≤ xs.length
  | [], _ => by simp [firstN]
  | _ :: _, [] => by simp [firstN]
  | x :: xs, y :: ys => by
    unfold firstN
    have := firstN_le xs ys
    split
    · simp; omega
    · simp

theorem find_take {α : Type} {p : α → Bool} {l : List α} {j : Nat} (h : j < l.length) (hn : (l.take j).find? p = none) : (l.take (j + 1)).find? p = if p l[j] = true then some l[j] else none := by
  rw [List.take_succ_eq_append_getElem h, List.find?_append, hn]
  simp [List.find?_cons]
  cases p l[j] <;> rfl
theorem find_of_take {α : Type} {p : α → Bool} {l : List α} {j : Nat} {x : α} (h : (l.take j).find? p = some x) : l.find? p = some x := by
  have := List.find?_append (xs := l.take j) (ys := l.drop j) (p := p)
  rw [List.take_append_drop, h] at this
  exact this
theorem backs_cell {W : World} {b j : Nat} {T : TypeId} {fz : Nat × Nat} {back : Bool} (h : W.heap[b]? = some (.cells #[.bool false, .bool true] T fz)) (hb : [false, true][j]? = some back) : W.cell? ⟨b, j, none⟩ = some (.bool back) := by
  rw [cell_of_row _ _ j _ _ fz h]
  rcases j with _ | _ | j
  · cases hb; rfl
  · cases hb; rfl
  · simp at hb
theorem backs_none {α : Type} {f : Bool → Option α} {j : Nat} {back : Bool} (hb : [false, true][j]? = some back) (h : ([false, true].take j).findSome? f = none) (h1 : f back = none) : ([false, true].take (j + 1)).findSome? f = none := by
  rcases j with _ | _ | j
  · cases hb; simpa using h1
  · cases hb; simpa [h1] using h
  · simp at hb
theorem backs_some {α : Type} {f : Bool → Option α} {j : Nat} {back : Bool} {x : α} (hb : [false, true][j]? = some back) (h : ([false, true].take j).findSome? f = none) (h1 : f back = some x) : [false, true].findSome? f = some x := by
  rcases j with _ | _ | j
  · cases hb; simp [h1]
  · cases hb
    have h0 : f false = none := by simpa using h
    simp [h0, h1]
  · simp at hb

set_option maxRecDepth 1000000 in
set_option maxHeartbeats 16000000 in
theorem rLast_any (A D : Option Addr) (k m : Nat) (c d : C) (w : World) (h : RdG w A c.gates) (hk : c.gates.length ≤ k) (hG : Good c) (h' : RdG w D d.gates) (hG' : Good d) :
    Calls Tryz.prog 123 #[.agg #[.int .i64 c.wires, .int .i64 c.bits, .slice A c.gates.length k], .agg #[.int .i64 d.wires, .int .i64 d.bits, .slice D d.gates.length m]] w fun e w' => ∃ A9 k9, e = .returned (.tuple #[.slice A9 (lastR c d).toList.length k9, .bool (lastR c d).isSome]) ∧ RdM w' A9 (lastR c d).toList ∧ Below w.heap.size w w' := by
  have hcl := hG.len
  have hdl := hG'.len
  have HG := Lib.hid (And.intro hG (And.intro h h'))
  clear hG h hG' h'
  go_enter Tryz.func123, Tryz.ntmps123
  go_upto_region 1 with fail
  obtain ⟨W1, hW1⟩ : ∃ W1, (w.alloc (.cells #[.int .i64 c.wires, .int .i64 c.bits, .slice A c.gates.length k] 24)).alloc (.cells #[.int .i64 d.wires, .int .i64 d.bits, .slice D d.gates.length m] 24) = W1 := ⟨_, rfl⟩
  have hb1 : Below w.heap.size w W1 := by rw [← hW1]; exact bl
  have p0 : W1.heap[w.heap.size]? = some (.cells #[.int .i64 c.wires, .int .i64 c.bits, .slice A c.gates.length k] 24 (0, 0)) := by rw [← hW1]; exact alloc_old (blk_alloc _ _ _ rfl)
  have p1 : W1.heap[w.heap.size + 1]? = some (.cells #[.int .i64 d.wires, .int .i64 d.bits, .slice D d.gates.length m] 24 (0, 0)) := by rw [← hW1]; exact blk_alloc _ _ _ (by simp)
  rw [hW1]
  clear hW1
  have HP := Lib.hid (And.intro p0 (And.intro p1 hb1))
  clear p0 p1 hb1
  go_upto_block 0 with fail
  go_cut [6] (fun f wx => f = .int .i64 (firstN c.gates d.gates : Int) ∧ Below W1.heap.size W1 wx)
  case first =>
    go_wp2_with fail
    go_loopw [6] (fun f wr => ∃ x : Nat, x ≤ c.gates.length ∧ f = .int .i64 x ∧ Hid (firstN c.gates d.gates = x + firstN (c.gates.drop x) (d.gates.drop x)) ∧ Below W1.heap.size W1 wr) (fun f _ => c.gates.length - (intOf f).toNat)
    case atStart => exact ⟨0, Nat.zero_le _, rfl, Lib.hid (by simp), Below.refl _ _⟩
    case round =>
      obtain ⟨x, hx, rfl, HN, hB⟩ := hrel
      rename World => wr
      obtain ⟨a0, a1, a2, af⟩ := cells3 (blk2 hB HP.out.1)
      obtain ⟨b0, b1, b2, bf⟩ := cells3 (blk2 hB HP.out.2.1)
      have la := blk_lt (blk2 hB HP.out.1)
      have lb := blk_lt (blk2 hB HP.out.2.1)
      have hz := hB.size
      have hold := olds wr
      by_cases h1 : x < c.gates.length
      · by_cases h2 : x < d.gates.length
        · have hBw := HP.out.2.2.trans (hB.mono HP.out.2.2.size)
          obtain ⟨bc, oc, B2, d2, rfl, g0, g1, g2, g3, hd2, hr2⟩ := (HG.out.2.1.bG hBw).gate x h1
          obtain ⟨bd, od, B3, d3, rfl, i0, i1, i2, i3, hd3, hr3⟩ := (HG.out.2.2.bG hBw).gate x h2
          obtain ⟨g, hg⟩ : ∃ g, c.gates[x] = g := ⟨_, rfl⟩
          obtain ⟨h, hh⟩ : ∃ g, d.gates[x] = g := ⟨_, rfl⟩
          have hs := firstN_step h1 h2
          rw [hg] at g0 g1 g2 g3 hd2 hr2 hs
          rw [hh] at i0 i1 i2 i3 hd3 hr3 hs
          have HR := Lib.hid (And.intro hr2 (And.intro hr3 hs))
          clear hg hh hr2 hr3 hs hd2 hd3
          have h1' : (x : Int) < (c.gates.length : Int) := by omega
          have h2' : (x : Int) < (d.gates.length : Int) := by omega
          have lg := cell_lt g0
          have li := cell_lt i0
          obtain ⟨q, hq⟩ : ∃ q, decide (g = h) = q := ⟨_, rfl⟩
          go_wp2
          refine wp_region_st (by kernel_rfl) (.op 0 (.op 1 (.op 2 (.op 3 (.op 4 (.op 5 (.op 6 (.op 7 (.op 8 (.op 9 (.op 10 (.op 11 (.op 12 (.op 13 (.op 14 (.op 15 (.op 16 (.op 17 (.op 18 (.op 19 (.op 20 (.op 21 (.op 22 (.alt true 23 (.op 24 .fin) .stop)))))))))))))))))))))))) (by kernel_rfl) (by kernel_rfl) (by kernel_rfl) ?_
          iterate 23 ((first|refine ST.qg ?_|refine ST.mg ?_|refine ST.ng ?_|refine ST.v1 ?_ ST.stop|refine ST.k1 ?_ ST.stop);simp only [Act.put, pA, pB, pC])
          refine ST.c1 ?_ ST.stop
          have hc := rSameGate_any B2 B3 d2 d3 g h _ (HR.out.1.bI (bl : Below wr.heap.size wr wr.drew)) (HR.out.2.1.bI (bl : Below wr.heap.size wr wr.drew))
          rw [hq] at hc
          refine hc.mono ?_
          clear hc
          rintro e w2 ⟨rfl, hb2⟩
          have hbr : Below wr.heap.size wr w2 := Below.trans bl hb2
          replace a0 := kc hbr a0
          replace a1 := kc hbr a1
          replace a2 := kc hbr a2
          replace b0 := kc hbr b0
          replace b1 := kc hbr b1
          replace b2 := kc hbr b2
          replace g0 := kc hbr g0
          replace g1 := kc hbr g1
          replace g2 := kc hbr g2
          replace g3 := kc hbr g3
          replace i0 := kc hbr i0
          replace i1 := kc hbr i1
          replace i2 := kc hbr i2
          replace i3 := kc hbr i3
          refine ⟨_, rfl, sb, ?_⟩
          simp only [Act.put, pA, pB, pC]
          (first|refine ST.qg ?_|refine ST.mg ?_|refine ST.ng ?_|refine ST.v1 ?_ ST.stop|refine ST.k1 ?_ ST.stop)
          simp only [Act.put, pA, pB, pC]
          simp only [ST]
          have hB2 := hB.trans (hbr.mono hz)
          cases q with
          | true =>
            go_wp2
            go_roundw
            case rel =>
              have hgh : g = h := of_decide_eq_true hq
              exact ⟨x + 1, by omega, by go_num, Lib.hid (by rw [HN.out, HR.out.2.2, if_pos hgh]; omega), hB2⟩
            case measure => simp [intOf]; omega
          | false =>
            have HE := Lib.hid (show firstN c.gates d.gates = x by
              have hgh : ¬ g = h := of_decide_eq_false hq
              rw [HN.out, HR.out.2.2, if_neg hgh]; rfl)
            go_wp2
            go_meet
            exact ⟨by rw [HE.out], hB2⟩
        · have h2' : ¬ (x : Int) < (d.gates.length : Int) := by omega
          have HE := Lib.hid (show firstN c.gates d.gates = x by rw [HN.out, firstN_end (.inr (by omega))]; rfl)
          go_wp2
          refine wp_region_st (by kernel_rfl) (.op 0 (.op 1 (.op 2 (.op 3 (.op 4 (.op 5 (.op 6 (.op 7 (.op 8 (.op 9 (.op 10 (.op 11 (.op 12 (.op 13 (.op 14 (.op 15 (.op 16 (.op 17 (.op 18 (.op 19 (.op 20 (.op 21 (.op 22 (.op 23 (.op 24 .fin))))))))))))))))))))))))) (by kernel_rfl) (by kernel_rfl) (by kernel_rfl) ?_
          iterate 25 ((first|refine ST.qg ?_|refine ST.mg ?_|refine ST.ng ?_|refine ST.v1 ?_ ST.stop|refine ST.k1 ?_ ST.stop);simp only [Act.put, pA, pB, pC])
          simp only [ST]
          go_wp2
          go_meet
          exact ⟨by rw [HE.out], by exact bl⟩
      · have h1' : ¬ (x : Int) < (c.gates.length : Int) := by omega
        have HE := Lib.hid (show firstN c.gates d.gates = x by rw [HN.out, firstN_end (.inl (by omega))]; rfl)
        go_wp2
        refine wp_region_st (by kernel_rfl) (.op 0 (.op 1 (.op 2 (.op 3 (.op 4 (.op 5 (.op 6 (.op 7 (.op 8 (.op 9 (.op 10 (.op 11 (.op 12 (.op 13 (.op 14 (.op 15 (.op 16 (.op 17 (.op 18 (.op 19 (.op 20 (.op 21 (.op 22 (.op 23 (.op 24 .fin))))))))))))))))))))))))) (by kernel_rfl) (by kernel_rfl) (by kernel_rfl) ?_
        iterate 25 ((first|refine ST.qg ?_|refine ST.mg ?_|refine ST.ng ?_|refine ST.v1 ?_ ST.stop|refine ST.k1 ?_ ST.stop);simp only [Act.put, pA, pB, pC])
        simp only [ST]
        go_wp2
        go_meet
        exact ⟨by rw [HE.out], by exact bl⟩
  case rest =>
  obtain ⟨rfl, hB0⟩ := hcut
  rename World => wa
  obtain ⟨fn, hfn⟩ : ∃ f, firstN c.gates d.gates = f := ⟨_, rfl⟩
  rw [hfn]
  have HFN := Lib.hid hfn
  clear hfn
  go_wp2
  go_loopw [7, 9, 10, 11, 13, 14, 15, 16] (fun r _ _ _ _ _ _ _ wr => ∃ i : Nat, i ≤ 44 ∧ r = .int .i64 i ∧ Hid ((List.range i).findSome? (lastF c d) = none) ∧ Below W1.heap.size W1 wr) (fun r _ _ _ _ _ _ _ _ => 44 - (intOf r).toNat)
  case atStart => exact ⟨0, Nat.zero_le _, rfl, Lib.hid rfl, hB0⟩
  case round =>
    clear hB0
    obtain ⟨i, hi, rfl, HN, hB⟩ := hrel
    rename World => wo
    by_cases hlt : i < 44
    · have hlt' : (i : Int) < 44 := by omega
      go_upto_block 4 with fail
      obtain ⟨wb, hV⟩ : ∃ V, wo.alloc (.cells #[.bool false, .bool true] 4) = V := ⟨_, rfl⟩
      have hbb : Below wo.heap.size wo wb := by rw [← hV]; exact bl
      have xb : wb.heap[wo.heap.size]? = some (.cells #[.bool false, .bool true] 4 (0, 0)) := by rw [← hV]; exact blk_alloc _ _ _ rfl
      rw [hV]
      clear hV
      have HB := Lib.hid (And.intro xb (hB.trans (hbb.mono hB.size)))
      clear xb hbb
      go_wp2_with fail
      go_loopw [9, 10, 11, 13, 14, 15, 16, 50] (fun _ _ _ _ _ _ _ ix wr => ∃ j : Nat, j ≤ 2 ∧ ix = .int .i64 j ∧ Hid (([false, true].take j).findSome? (lastAt c d i) = none) ∧ Below wb.heap.size wb wr) (fun _ _ _ _ _ _ _ ix _ => 2 - (intOf ix).toNat)
      case atStart => exact ⟨0, Nat.zero_le _, rfl, Lib.hid rfl, Below.refl _ _⟩
      case round =>
        obtain ⟨j, hj, rfl, HJ, hB2⟩ := hrel
        rename World => wr
        by_cases hlt2 : j < 2
        · have hlt2' : (j : Int) < 2 := by omega
          obtain ⟨back, hback⟩ : ∃ back, [false, true][j]? = some back := ⟨_, List.getElem?_eq_getElem (by simpa using hlt2)⟩
          have hx := backs_cell (blk2 hB2 HB.out.1) hback
          have hx0 : wr.cell? ⟨wo.heap.size, 0 + j, none⟩ = some (.bool back) := by rw [Nat.zero_add]; exact hx
          obtain ⟨q, hq⟩ : ∃ q, decide (i = 43) = q := ⟨_, rfl⟩
          have hne : ((i : Int) != 43) = !q := by rw [← hq, Bool.eq_iff_iff]; simp; omega
          have heq : ((i : Int) == 43) = q := by rw [← hq, Bool.eq_iff_iff]; simp; omega
          have HBK := Lib.hid (And.intro hback hq)
          have hB3 := HB.out.2.trans (hB2.mono HB.out.2.size)
          clear hback
          go_upto_if 55 with fail
          go_cut [10, 11] (fun p q wx => ∃ A1 c1 A2 c2, p = .slice A1 (fromG i back).length c1 ∧ q = .slice A2 (toG i back).length c2 ∧ Below wr.heap.size wr wx)
          case first =>
            cases q with
            | true =>
              have e1 : (fromG i back).length = 0 := by rw [of_decide_eq_true hq]; cases back <;> decide
              have e2 : (toG i back).length = 0 := by rw [of_decide_eq_true hq]; cases back <;> decide
              go_wp2
              go_meet
              rw [e1, e2]
              exact ⟨none, 0, none, 0, rfl, rfl, Below.refl _ _⟩
            | false =>
              have hi43 : i < 43 := by have := of_decide_eq_false hq; omega
              go_wp2_with fail
              refine (rSides_any i hi43 0 back (.slice none 0 0) 0 0 none rfl wr).mono ?_
              rintro e w2 ⟨A1, c1, A2, c2, rfl, h1, h2, h3, h4, hb⟩
              go_wp2
              go_meet
              exact ⟨A1, c1, A2, c2, rfl, rfl, hb⟩
          case rest =>
          obtain ⟨A1, c1, A2, c2, rfl, rfl, hb⟩ := hcut
          rename World => w2
          have hB4 := hB3.trans (hb.mono hB3.size)
          have hB5 := hB2.trans (hb.mono hB2.size)
          obtain ⟨a0, a1, a2, af⟩ := cells3 (blk2 hB4 HP.out.1)
          obtain ⟨b0, b1, b2, bf⟩ := cells3 (blk2 hB4 HP.out.2.1)
          have hk1 := (from_wires i hlt back).1
          have hk2 := (to_wires i hlt back).1
          obtain ⟨e1, he1⟩ : ∃ e, (fromG i back).length = e := ⟨_, rfl⟩
          obtain ⟨e2, he2⟩ : ∃ e, (toG i back).length = e := ⟨_, rfl⟩
          obtain ⟨q1, hq1⟩ : ∃ q, ((e2 : Int) - (e1 : Int) != (d.gates.length : Int) - (c.gates.length : Int)) = q := ⟨_, rfl⟩
          have HSK := Lib.hid (show skipB c d i back = (q1 || (q && back)) by unfold skipB; rw [he1, he2, hq1, HBK.out.2])
          rw [he1] at hk1 ⊢
          rw [he2] at hk2 ⊢
          have hw1 : IntKind.i64.wrap ((e2 : Int) - (e1 : Int)) = (e2 : Int) - (e1 : Int) := IntWalk.i64_in _ (by omega)
          have hw2 : IntKind.i64.wrap ((d.gates.length : Int) - (c.gates.length : Int)) = (d.gates.length : Int) - (c.gates.length : Int) := IntWalk.i64_in _ (by omega)
          clear he1 he2 hb hx hx0 hB2 hB3
          go_upto_region 13 with fail
          obtain ⟨ys, hys⟩ : ∃ ys, fitR c i back = ys := ⟨_, rfl⟩
          obtain ⟨hyl, hyw⟩ := fitR_small (back := back) HG.out.1 hlt
          have hc := rFitting_any A k c i back w2 (HG.out.2.1.bG (HP.out.2.2.trans (hB4.mono HP.out.2.2.size))) hk HG.out.1 hlt
          rw [hys] at hc hyl hyw
          have HOK0 := Lib.hid (show skipB c d i back = false → lastAt c d i back = ys.find? (lastOk c d) from fun h => by unfold lastAt; rw [h, ← hys]; rfl)
          clear hys
          have hor : q1 = true ∨ (q1 = false ∧ q = true ∧ back = true) ∨ (q1 = false ∧ q = false) ∨ (q1 = false ∧ q = true ∧ back = false) := by
            cases q1 <;> cases q <;> cases back <;> simp
          rcases hor with rfl | ⟨rfl, rfl, rfl⟩ | ⟨rfl, rfl⟩ | ⟨rfl, rfl, rfl⟩
          · skip
            have HSN := Lib.hid (show lastAt c d i back = none by unfold lastAt; rw [HSK.out]; rfl)
            go_wp2
            go_roundw
            case rel => exact ⟨j + 1, by omega, by go_num, Lib.hid (backs_none HBK.out.1 HJ.out HSN.out), hB5⟩
            case measure => simp [intOf]; omega
          · skip
            have HSN := Lib.hid (show lastAt c d i true = none by unfold lastAt; rw [HSK.out]; rfl)
            go_wp2
            go_roundw
            case rel => exact ⟨j + 1, by omega, by go_num, Lib.hid (backs_none HBK.out.1 HJ.out HSN.out), hB5⟩
            case measure => simp [intOf]; omega
          all_goals
            have HOK := Lib.hid (HOK0.out (by rw [HSK.out]; rfl))
            go_wp2_with fail
            refine hc.mono ?_
            clear hc
            rintro e w5 ⟨v, rfl, ho, hb⟩
            obtain ⟨A7, c7, rfl, _, hm⟩ := ho.rdM (by omega) (fun s hs => by have := hyw s hs; omega)
            have HM := Lib.hid hm
            have hB6 := hB4.trans (hb.mono hB4.size)
            have hB7 := hB5.trans (hb.mono hB5.size)
            clear ho hb hm hyw a0 a1 a2 af hB4 hB5
            go_wp2
            go_loopw [13, 14, 15, 16, 90] (fun _ _ _ _ ix wr => ∃ x : Nat, x ≤ ys.length ∧ ix = .int .i64 x ∧ Hid ((ys.take x).find? (lastOk c d) = none) ∧ Below w5.heap.size w5 wr) (fun _ _ _ _ ix _ => ys.length - (intOf ix).toNat)
            case atStart => exact ⟨0, Nat.zero_le _, rfl, Lib.hid rfl, Below.refl _ _⟩
            case round =>
              obtain ⟨x, hx, rfl, HFD, hB8⟩ := hrel
              rename World => wx
              by_cases hlt3 : x < ys.length
              · obtain ⟨bm, om, B4, d4, rfl, g0, g1, g2, g3, hd4, hr4⟩ := (HM.out.bM hB8).move x hlt3
                have HFT := Lib.hid (find_take hlt3 HFD.out)
                obtain ⟨s, hs⟩ : ∃ s, ys[x] = s := ⟨_, rfl⟩
                rw [hs] at g0 g1 g2 g3 hd4 hr4 HFT
                have HR := Lib.hid hr4
                have hlt3' : (x : Int) < (ys.length : Int) := by omega
                have hold := olds wx
                have lg := cell_lt g0
                clear hs hr4
                go_upto_region 17 with fail
                obtain ⟨V1, hV⟩ : ∃ V, wx.alloc (.cells #[.int .i64 s.rule, .int .i64 s.at_, .bool s.back, .slice B4 s.wires.length d4] 27) = V := ⟨_, rfl⟩
                have hb1 : Below wx.heap.size wx V1 := by rw [← hV]; exact bl
                have x1 : V1.heap[wx.heap.size]? = some (.cells #[.int .i64 s.rule, .int .i64 s.at_, .bool s.back, .slice B4 s.wires.length d4] 27 (0, 0)) := by rw [← hV]; exact blk_alloc _ _ _ rfl
                rw [hV]
                clear hV g0 g1 g2 g3 lg hold
                have hB9 := hB8.trans (hb1.mono hB8.size)
                have hW1 := hB6.trans (hB9.mono hB6.size)
                obtain ⟨a0, a1, a2, af⟩ := cells3 (blk2 hW1 HP.out.1)
                obtain ⟨k0, k1, k2, k3, kf⟩ := cells4 x1
                have hc := rDone_any A B4 k d4 c s V1 (HG.out.2.1.bG (HP.out.2.2.trans (hW1.mono HP.out.2.2.size))) hk (HR.out.bI hb1) hd4 HG.out.1
                obtain ⟨⟨er, nx, ph⟩, hy⟩ : ∃ y, applyR c s = y := ⟨_, rfl⟩
                rw [hy] at hc
                have HY := Lib.hid (show (applyR c s).2.1 = nx by rw [hy])
                have HX1 := Lib.hid x1
                have HR1 := Lib.hid (HR.out.bI hb1)
                clear hy x1 hb1
                go_wp2_with fail
                refine hc.mono ?_
                clear hc
                rintro e w6 ⟨A9, c9, rfl, hc9, hrf, hb⟩
                dsimp only at hrf hc9 ⊢
                go_upto_region 18 with fail
                obtain ⟨V7, hV⟩ : ∃ V, w6.alloc (.cells #[.int .i64 nx.wires, .int .i64 nx.bits, .slice A9 nx.gates.length c9] 24) = V := ⟨_, rfl⟩
                have hb7 : Below V1.heap.size V1 V7 := by rw [← hV]; exact below_alloc hb _
                have x7 : V7.heap[w6.heap.size]? = some (.cells #[.int .i64 nx.wires, .int .i64 nx.bits, .slice A9 nx.gates.length c9] 24 (0, 0)) := by rw [← hV]; exact blk_alloc _ _ _ rfl
                have hr7 : RdG V7 A9 nx.gates := by rw [← hV]; exact hrf.rd.bG (below_alloc (Below.refl _ _) _)
                rw [hV]
                clear hV a0 a1 a2 af k0 k1 k2 k3 kf hrf hb
                have hB10 := hB9.trans (hb7.mono hB9.size)
                have hW7 := hB6.trans (hB10.mono hB6.size)
                have HX7 := Lib.hid (And.intro (blk2 hb7 HX1.out) hr7)
                have HR7 := Lib.hid (HR1.out.bI hb7)
                obtain ⟨k0, k1, k2, k3, kf⟩ := cells4 HX7.out.1
                obtain ⟨t0, t1, t2, tf⟩ := cells3 x7
                obtain ⟨b0, b1, b2, bf⟩ := cells3 (blk2 hW7 HP.out.2.1)
                clear hb7 hr7 x7 hW1 hB9
                by_cases hat : s.at_ ≤ (fn : Int)
                · obtain ⟨q3, hq3⟩ : ∃ q, decide (nx = d) = q := ⟨_, rfl⟩
                  have hc := rSame4_any A9 D c9 m nx d V7 HX7.out.2 (HG.out.2.2.bG (HP.out.2.2.trans (hW7.mono HP.out.2.2.size)))
                  rw [hq3] at hc
                  have HQ3 := Lib.hid (show lastOk c d s = q3 by unfold lastOk; rw [HFN.out, HY.out, hq3, decide_eq_true hat]; rfl)
                  clear hq3
                  go_wp2_with fail
                  refine hc.mono ?_
                  clear hc
                  rintro e w8 ⟨rfl, hb⟩
                  have hB11 := hB10.trans (hb.mono hB10.size)
                  have x8 := blk2 hb HX7.out.1
                  have HR8 := Lib.hid (HR7.out.bI hb)
                  clear hb k0 k1 k2 k3 kf t0 t1 t2 tf b0 b1 b2 bf
                  obtain ⟨k0, k1, k2, k3, kf⟩ := cells4 x8
                  have lx := blk_lt x8
                  have hold := olds w8
                  clear x8
                  cases q3 with
                  | true =>
                    have HL := Lib.hid (show lastR c d = some s by
                      have h1 := HFT.out
                      rw [HQ3.out, if_pos rfl] at h1
                      exact find_at hlt HN.out (backs_some HBK.out.1 HJ.out (by rw [HOK.out]; exact find_of_take h1)))
                    have hBF := HP.out.2.2.trans ((hB6.trans (hB11.mono hB6.size)).mono HP.out.2.2.size)
                    go_wp2
                    go_ret2
                    refine ⟨_, 1, by rw [HL.out]; rfl, ?_, below_alloc hBF _⟩
                    rw [HL.out]
                    refine Rd.blk [[.int .i64 s.rule, .int .i64 s.at_, .bool s.back, .slice B4 s.wires.length d4]] (blk_alloc _ _ _ rfl) rfl (by simp) rfl (by simp) fun k x cs hx hc => ?_
                    rcases k with _ | k
                    · cases hx; cases hc; exact ⟨_, _, rfl, hd4, HR8.out.bI (below_alloc (Below.refl _ _) _)⟩
                    · simp at hc
                  | false =>
                    go_wp2
                    go_roundw
                    case rel => exact ⟨x + 1, by omega, by go_num, Lib.hid (by rw [HFT.out, HQ3.out]; rfl), hB11⟩
                    case measure => simp [intOf]; omega
                · have hat' : ¬ s.at_ ≤ (fn : Int) := hat
                  have HQ3 := Lib.hid (show lastOk c d s = false by unfold lastOk; rw [HFN.out, decide_eq_false hat]; rfl)
                  go_wp2
                  go_roundw
                  case rel => exact ⟨x + 1, by omega, by go_num, Lib.hid (by rw [HFT.out, HQ3.out]; rfl), hB10⟩
                  case measure => simp [intOf]; omega
              · obtain rfl : x = ys.length := by omega
                have HSN := Lib.hid (HOK.out.trans (show ys.find? (lastOk c d) = none by have := HFD.out; rwa [List.take_length] at this))
                go_wp2
                go_roundw
                case rel => exact ⟨j + 1, by omega, by go_num, Lib.hid (backs_none HBK.out.1 HJ.out HSN.out), hB7.trans (hB8.mono hB7.size)⟩
                case measure => simp [intOf]; omega
        · have HJ2 := Lib.hid (show lastF c d i = none by
            have := HJ.out
            rw [List.take_of_length_le (by simp; omega)] at this
            exact this)
          have hge : ¬ (j : Int) < 2 := by omega
          go_wp2
          go_roundw
          case rel => exact ⟨i + 1, by omega, by go_num, Lib.hid (by rw [range_find, HN.out, HJ2.out]; rfl), HB.out.2.trans (hB2.mono HB.out.2.size)⟩
          case measure => simp [intOf]; omega
    · obtain rfl : i = 44 := by omega
      have HL := Lib.hid (show lastR c d = none from HN.out)
      go_wp2
      go_ret2
      exact ⟨none, 0, by rw [HL.out]; rfl, by rw [HL.out]; exact Rd.nil _ _ _ _, HP.out.2.2.trans (hB.mono HP.out.2.2.size)⟩
end Go.Proofs.YtfommmijojfdbaaGreatDoor
namespace Go.Proofs.YtfommmijojfdbaaGreatDoor
open Go.RowKit

def rsearch (d : C) : Nat → C → Option (List M)
  | 0, c => if c = d then some [] else none
  | 1, c => (lastR c d).map fun s => [s]
  | n + 2, c => (allR c).findSome? fun s => (rsearch d (n + 1) (applyR c s).2.1).map (s :: ·)
theorem rsearch_len {d : C} : ∀ (n : Nat) (c : C) (l : List M), rsearch d n c = some l → l.length = n
  | 0, c, l, h => by
    unfold rsearch at h
    split at h
    · cases h; rfl
    · cases h
  | 1, c, l, h => by
    unfold rsearch at h
    obtain ⟨s, _, rfl⟩ := Option.map_eq_some_iff.1 h
    rfl
  | n + 2, c, l, h => by
    unfold rsearch at h
    obtain ⟨s, _, h⟩ := List.exists_of_findSome?_eq_some h
    obtain ⟨l', h', rfl⟩ := Option.map_eq_some_iff.1 h
    simp [rsearch_len (n + 1) _ _ h']
theorem fitR_done {c : C} {i : Nat} {back : Bool} {s : M} (hs : s ∈ fitR c i back) : (applyR c s).1 = 0 := by
  obtain ⟨x, _, hx⟩ := List.mem_flatMap.1 hs
  unfold fitAt at hx
  split at hx
  · exact of_decide_eq_true (List.mem_filter.1 hx).2
  · cases hx
theorem allR_good {c : C} {s : M} (hG : Good c) (hs : s ∈ allR c) : Good (applyR c s).2.1 ∧ (applyR c s).2.1.wires = c.wires ∧ (applyR c s).2.1.bits = c.bits := by
  have h0 : (applyR c s).1 = 0 := by
    obtain ⟨i, _, hi⟩ := List.mem_flatMap.1 hs
    unfold allF at hi
    rcases List.mem_append.1 hi with h | h
    · exact fitR_done h
    · split at h
      · cases h
      · exact fitR_done h
  exact step_good (s := s) (p := (applyR c s).2.2) hG (by rw [← h0])
theorem findSome_take {α β : Type} {f : α → Option β} {l : List α} {j : Nat} (h : j < l.length) (hn : (l.take j).findSome? f = none) : (l.take (j + 1)).findSome? f = f l[j] := by
  rw [List.take_succ_eq_append_getElem h, List.findSome?_append, hn]
  simp
theorem findSome_of_take {α β : Type} {f : α → Option β} {l : List α} {j : Nat} {x : β} (h : (l.take j).findSome? f = some x) : l.findSome? f = some x := by
  have := List.findSome?_append (xs := l.take j) (ys := l.drop j) (f := f)
  rw [List.take_append_drop, h] at this
  exact this
def RetO (o : Option (List M)) (w : World) (e : Ending) (w' : World) : Prop := ∃ A9 k9, e = .returned (.tuple #[.slice A9 (o.getD []).length k9, .bool o.isSome]) ∧ RdM w' A9 (o.getD []) ∧ Below w.heap.size w w'

set_option maxRecDepth 1000000 in
set_option maxHeartbeats 16000000 in
theorem rSearch78_any (d : C) (hG' : Good d) : ∀ (n : Nat) (A D : Option Addr) (k m : Nat) (c : C) (w : World), n ≤ 100 → RdG w A c.gates → c.gates.length ≤ k → Good c → RdG w D d.gates → d.gates.length ≤ m →
    Calls Tryz.prog 78 #[.agg #[.int .i64 c.wires, .int .i64 c.bits, .slice A c.gates.length k], .agg #[.int .i64 d.wires, .int .i64 d.bits, .slice D d.gates.length m], .int .i64 (n : Int)] w (RetO (rsearch d n c) w)
  | 0, A, D, k, m, c, w, _, h, hk, hG, h', hm => by
    have HG := Lib.hid (And.intro hG (And.intro h h'))
    clear hG h h'
    obtain ⟨N, hN⟩ : ∃ N : Nat, N = 0 := ⟨_, rfl⟩
    have HN := Lib.hid hN
    have t0 : ((N : Int) == 0) = true := by rw [hN]; rfl
    rw [← hN]
    clear hN
    go_enter Tryz.func78, Tryz.ntmps78
    go_upto_region 1 with fail
    obtain ⟨W1, hW1⟩ : ∃ W1, (w.alloc (.cells #[.int .i64 c.wires, .int .i64 c.bits, .slice A c.gates.length k] 24)).alloc (.cells #[.int .i64 d.wires, .int .i64 d.bits, .slice D d.gates.length m] 24) = W1 := ⟨_, rfl⟩
    have hb1 : Below w.heap.size w W1 := by rw [← hW1]; exact bl
    have p0 : W1.heap[w.heap.size]? = some (.cells #[.int .i64 c.wires, .int .i64 c.bits, .slice A c.gates.length k] 24 (0, 0)) := by rw [← hW1]; exact alloc_old (blk_alloc _ _ _ rfl)
    have p1 : W1.heap[w.heap.size + 1]? = some (.cells #[.int .i64 d.wires, .int .i64 d.bits, .slice D d.gates.length m] 24 (0, 0)) := by rw [← hW1]; exact blk_alloc _ _ _ (by simp)
    rw [hW1]
    clear hW1
    have HP := Lib.hid (And.intro p0 (And.intro p1 hb1))
    obtain ⟨a0, a1, a2, af⟩ := cells3 p0
    obtain ⟨b0, b1, b2, bf⟩ := cells3 p1
    clear p0 p1 hb1
    obtain ⟨q, hq⟩ : ∃ q, decide (c = d) = q := ⟨_, rfl⟩
    have hc := rSame4_any A D k m c d W1 (HG.out.2.1.bG HP.out.2.2) (HG.out.2.2.bG HP.out.2.2)
    rw [hq] at hc
    have HQ := Lib.hid hq
    clear hq
    go_wp2_with fail
    refine hc.mono ?_
    clear hc
    rintro e w2 ⟨rfl, hb⟩
    have HB := Lib.hid (HP.out.2.2.trans (hb.mono HP.out.2.2.size))
    clear hb
    go_wp2
    go_ret2
    rw [HN.out]
    have e1 : rsearch d 0 c = if c = d then some [] else none := rfl
    rw [e1]
    by_cases h : c = d
    · have : q = true := by rw [← HQ.out]; exact decide_eq_true h
      rw [if_pos h, this]
      exact ⟨none, 0, rfl, Rd.nil _ _ _ _, HB.out⟩
    · have : q = false := by rw [← HQ.out]; exact decide_eq_false h
      rw [if_neg h, this]
      exact ⟨none, 0, rfl, Rd.nil _ _ _ _, HB.out⟩
  | 1, A, D, k, m, c, w, _, h, hk, hG, h', hm => by
    have HG := Lib.hid (And.intro hG (And.intro h h'))
    clear hG h h'
    obtain ⟨N, hN⟩ : ∃ N : Nat, N = 1 := ⟨_, rfl⟩
    have HN := Lib.hid hN
    have t0 : ((N : Int) == 0) = false := by rw [hN]; rfl
    have t1 : ((N : Int) == 1) = true := by rw [hN]; rfl
    rw [← hN]
    clear hN
    go_enter Tryz.func78, Tryz.ntmps78
    go_upto_region 1 with fail
    obtain ⟨W1, hW1⟩ : ∃ W1, (w.alloc (.cells #[.int .i64 c.wires, .int .i64 c.bits, .slice A c.gates.length k] 24)).alloc (.cells #[.int .i64 d.wires, .int .i64 d.bits, .slice D d.gates.length m] 24) = W1 := ⟨_, rfl⟩
    have hb1 : Below w.heap.size w W1 := by rw [← hW1]; exact bl
    have p0 : W1.heap[w.heap.size]? = some (.cells #[.int .i64 c.wires, .int .i64 c.bits, .slice A c.gates.length k] 24 (0, 0)) := by rw [← hW1]; exact alloc_old (blk_alloc _ _ _ rfl)
    have p1 : W1.heap[w.heap.size + 1]? = some (.cells #[.int .i64 d.wires, .int .i64 d.bits, .slice D d.gates.length m] 24 (0, 0)) := by rw [← hW1]; exact blk_alloc _ _ _ (by simp)
    rw [hW1]
    clear hW1
    have HP := Lib.hid (And.intro p0 (And.intro p1 hb1))
    obtain ⟨a0, a1, a2, af⟩ := cells3 p0
    obtain ⟨b0, b1, b2, bf⟩ := cells3 p1
    clear p0 p1 hb1
    have hc := rLast_any A D k m c d W1 (HG.out.2.1.bG HP.out.2.2) hk HG.out.1 (HG.out.2.2.bG HP.out.2.2) hG'
    obtain ⟨o, ho⟩ : ∃ o, lastR c d = o := ⟨_, rfl⟩
    rw [ho] at hc
    have HO := Lib.hid ho
    clear ho
    go_wp2_with fail
    refine hc.mono ?_
    clear hc
    rintro e w2 ⟨A9, k9, rfl, hr, hb⟩
    have HB := Lib.hid (And.intro hr (HP.out.2.2.trans (hb.mono HP.out.2.2.size)))
    clear hb hr
    go_wp2
    go_ret2
    rw [HN.out]
    have e1 : rsearch d 1 c = o.map fun s => [s] := by rw [← HO.out]; rfl
    rw [e1]
    cases o with
    | none => exact ⟨A9, k9, rfl, Rd.nil _ _ _ _, HB.out.2⟩
    | some s => exact ⟨A9, k9, rfl, HB.out.1, HB.out.2⟩
  | n + 2, A, D, k, m, c, w, hn, h, hk, hG, h', hm => by
    have IH := Lib.hid (rSearch78_any d hG' (n + 1))
    have HG := Lib.hid (And.intro hG (And.intro h h'))
    clear hG h h'
    obtain ⟨N, hN⟩ : ∃ N : Nat, N = n + 2 := ⟨_, rfl⟩
    obtain ⟨N1, hN1⟩ : ∃ N : Nat, N = n + 1 := ⟨_, rfl⟩
    rw [← hN1] at IH
    have HN := Lib.hid (And.intro hN hN1)
    have t0 : ((N : Int) == 0) = false := by rw [hN]; simp; omega
    have t1 : ((N : Int) == 1) = false := by rw [hN]; simp; omega
    have hwr : IntKind.i64.wrap ((N : Int) - 1) = (N1 : Int) := by rw [IntWalk.i64_in _ (by omega)]; omega
    have hN100 : N1 ≤ 100 := by omega
    rw [← hN]
    clear hN hN1
    go_enter Tryz.func78, Tryz.ntmps78
    go_upto_region 1 with fail
    obtain ⟨W1, hW1⟩ : ∃ W1, (w.alloc (.cells #[.int .i64 c.wires, .int .i64 c.bits, .slice A c.gates.length k] 24)).alloc (.cells #[.int .i64 d.wires, .int .i64 d.bits, .slice D d.gates.length m] 24) = W1 := ⟨_, rfl⟩
    have hb1 : Below w.heap.size w W1 := by rw [← hW1]; exact bl
    have p0 : W1.heap[w.heap.size]? = some (.cells #[.int .i64 c.wires, .int .i64 c.bits, .slice A c.gates.length k] 24 (0, 0)) := by rw [← hW1]; exact alloc_old (blk_alloc _ _ _ rfl)
    have p1 : W1.heap[w.heap.size + 1]? = some (.cells #[.int .i64 d.wires, .int .i64 d.bits, .slice D d.gates.length m] 24 (0, 0)) := by rw [← hW1]; exact blk_alloc _ _ _ (by simp)
    rw [hW1]
    clear hW1
    have HP := Lib.hid (And.intro p0 (And.intro p1 hb1))
    obtain ⟨a0, a1, a2, af⟩ := cells3 p0
    obtain ⟨b0, b1, b2, bf⟩ := cells3 p1
    clear p0 p1 hb1
    have hc := rAll_any A k c W1 (HG.out.2.1.bG HP.out.2.2) hk HG.out.1
    have hys := allR_part HG.out.1 (Nat.le_refl 44)
    have hgd : ∀ s ∈ allR c, Good (applyR c s).2.1 := fun s hs => (allR_good HG.out.1 hs).1
    obtain ⟨ys, he⟩ : ∃ ys, allR c = ys := ⟨_, rfl⟩
    rw [he] at hc hgd
    have hys' : ys.length ≤ 20000000 ∧ ∀ s ∈ ys, s.wires.length ≤ 3 := by rw [← he]; exact hys
    have HE := Lib.hid (And.intro he (And.intro hgd hys'.2))
    have hyl := hys'.1
    clear he hgd hys hys'
    go_wp2_with fail
    refine hc.mono ?_
    clear hc
    rintro e w5 ⟨v, rfl, ho, hb⟩
    obtain ⟨A7, c7, rfl, _, hmm⟩ := ho.rdM (by omega) (fun s hs => by have := HE.out.2.2 s hs; omega)
    have HM := Lib.hid hmm
    have hB1 := hb
    clear ho hb hmm a0 a1 a2 af b0 b1 b2 bf
    go_wp2
    go_loopw [9, 10, 11, 12, 13, 14, 30] (fun _ _ _ _ _ _ ix wr => ∃ x : Nat, x ≤ ys.length ∧ ix = .int .i64 x ∧ Hid ((ys.take x).findSome? (fun s => (rsearch d N1 (applyR c s).2.1).map (s :: ·)) = none) ∧ Below w5.heap.size w5 wr) (fun _ _ _ _ _ _ ix _ => ys.length - (intOf ix).toNat)
    case atStart => exact ⟨0, Nat.zero_le _, rfl, Lib.hid rfl, Below.refl _ _⟩
    case round =>
      obtain ⟨x, hx, rfl, HFD, hB8⟩ := hrel
      rename World => wx
      by_cases hlt3 : x < ys.length
      · obtain ⟨bm, om, B4, d4, rfl, g0, g1, g2, g3, hd4, hr4⟩ := (HM.out.bM hB8).move x hlt3
        have HFT := Lib.hid (findSome_take hlt3 HFD.out)
        obtain ⟨s, hs⟩ : ∃ s, ys[x] = s := ⟨_, rfl⟩
        have hsm : s ∈ ys := hs ▸ List.getElem_mem hlt3
        rw [hs] at g0 g1 g2 g3 hd4 hr4 HFT
        have HR := Lib.hid hr4
        have hlt3' : (x : Int) < (ys.length : Int) := by omega
        have hold := olds wx
        have lg := cell_lt g0
        have hgx := HE.out.2.1 s hsm
        clear hs hr4 hsm
        go_upto_region 8 with fail
        obtain ⟨V1, hV⟩ : ∃ V, wx.alloc (.cells #[.int .i64 s.rule, .int .i64 s.at_, .bool s.back, .slice B4 s.wires.length d4] 27) = V := ⟨_, rfl⟩
        have hb1 : Below wx.heap.size wx V1 := by rw [← hV]; exact bl
        have x1 : V1.heap[wx.heap.size]? = some (.cells #[.int .i64 s.rule, .int .i64 s.at_, .bool s.back, .slice B4 s.wires.length d4] 27 (0, 0)) := by rw [← hV]; exact blk_alloc _ _ _ rfl
        rw [hV]
        clear hV g0 g1 g2 g3 lg hold
        have hB9 := hB8.trans (hb1.mono hB8.size)
        have hW1 := hB1.trans (hB9.mono hB1.size)
        obtain ⟨a0, a1, a2, af⟩ := cells3 (blk2 hW1 HP.out.1)
        obtain ⟨k0, k1, k2, k3, kf⟩ := cells4 x1
        have hc := rDone_any A B4 k d4 c s V1 (HG.out.2.1.bG (HP.out.2.2.trans (hW1.mono HP.out.2.2.size))) hk (HR.out.bI hb1) hd4 HG.out.1
        obtain ⟨⟨er, nx, ph⟩, hy⟩ : ∃ y, applyR c s = y := ⟨_, rfl⟩
        rw [hy] at hc hgx HFT
        have HX1 := Lib.hid (And.intro x1 (HR.out.bI hb1))
        have HGX := Lib.hid hgx
        clear hy x1 hb1 hgx HR
        go_wp2_with fail
        refine hc.mono ?_
        clear hc
        rintro e w6 ⟨A9, c9, rfl, hc9, hrf, hb⟩
        dsimp only at hrf hc9 HGX HFT ⊢
        go_upto_region 9 with fail
        obtain ⟨V7, hV⟩ : ∃ V, w6.alloc (.cells #[.int .i64 nx.wires, .int .i64 nx.bits, .slice A9 nx.gates.length c9] 24) = V := ⟨_, rfl⟩
        have hb7 : Below V1.heap.size V1 V7 := by rw [← hV]; exact below_alloc hb _
        have x7 : V7.heap[w6.heap.size]? = some (.cells #[.int .i64 nx.wires, .int .i64 nx.bits, .slice A9 nx.gates.length c9] 24 (0, 0)) := by rw [← hV]; exact blk_alloc _ _ _ rfl
        have hr7 : RdG V7 A9 nx.gates := by rw [← hV]; exact hrf.rd.bG (below_alloc (Below.refl _ _) _)
        rw [hV]
        clear hV a0 a1 a2 af k0 k1 k2 k3 kf hrf hb
        have hB10 := hB9.trans (hb7.mono hB9.size)
        have hW7 := hB1.trans (hB10.mono hB1.size)
        have HX7 := Lib.hid (And.intro (blk2 hb7 HX1.out.1) (HX1.out.2.bI hb7))
        obtain ⟨t0', t1', t2', tf⟩ := cells3 x7
        obtain ⟨b0, b1, b2, bf⟩ := cells3 (blk2 hW7 HP.out.2.1)
        have hc := IH.out A9 D c9 m nx V7 hN100 hr7 hc9 HGX.out (HG.out.2.2.bG (HP.out.2.2.trans (hW7.mono HP.out.2.2.size))) hm
        obtain ⟨o, ho⟩ : ∃ o, rsearch d N1 nx = o := ⟨_, rfl⟩
        rw [ho] at hc HFT
        have HO := Lib.hid ho
        clear hb7 hr7 x7 hW1 hB9 ho
        go_wp2_with fail
        refine hc.mono ?_
        clear hc
        rintro e w8 ⟨A10, k10, rfl, hm10, hb⟩
        have hB11 := hB10.trans (hb.mono hB10.size)
        have x8 := blk2 hb HX7.out.1
        have HX8 := Lib.hid (And.intro (HX7.out.2.bI hb) hm10)
        clear hb t0' t1' t2' tf b0 b1 b2 bf hm10
        obtain ⟨k0, k1, k2, k3, kf⟩ := cells4 x8
        have lx := blk_lt x8
        have hold := olds w8
        clear x8
        cases o with
        | none =>
          go_wp2
          go_roundw
          case rel => exact ⟨x + 1, by omega, by go_num, Lib.hid (by rw [HFT.out]; rfl), hB11⟩
          case measure => simp [intOf]; omega
        | some l =>
          have hll : l.length ≤ 100 := by rw [rsearch_len _ _ _ HO.out]; exact hN100
          have HL := Lib.hid (show rsearch d N c = some (s :: l) by
            obtain ⟨e1, e2⟩ := HN.out
            rw [e1]
            unfold rsearch
            rw [← e2, HE.out.1]
            exact findSome_of_take HFT.out)
          simp only [Option.getD_some, Option.isSome_some] at HX8 ⊢
          have hb9 : Below w8.heap.size w8 (w8.alloc (.cells #[.int .i64 s.rule, .int .i64 s.at_, .bool s.back, .slice B4 s.wires.length d4] 27)) := bl
          have hE8 : EM w8 s [.int .i64 s.rule, .int .i64 s.at_, .bool s.back, .slice B4 s.wires.length d4] := ⟨B4, d4, rfl, hd4, HX8.out.1⟩
          have HA := Lib.hid (App.lit (E := EM0 w8) (T := 27) (sz := 4) (B := w8.heap.size) (w := w8) (xs := [s]) (Nat.le_refl _) (by simp) ((Reps.nil _ _).snoc hE8 rfl))
          have hBF := HP.out.2.2.trans ((hB1.trans (hB11.mono hB1.size)).mono HP.out.2.2.size)
          go_wp2_with (at_builtin; refine wp_apps (E := EM0 w8) (E' := EM0 w8) (W := w8.alloc (.cells #[.int .i64 s.rule, .int .i64 s.at_, .bool s.back, .slice B4 s.wires.length d4] 27)) (fun _ x cs h => EM.one w8 x cs h) (fun _ _ h => h) 27 4 w8.heap.size rfl _ _ 30 (.agg #[.int .i64 0, .int .i64 0, .bool false, .slice none 0 0]) 48 rfl Tryz.underlying30 (by kernel_rfl) rfl (by decide) (by decide) (.slice (some ⟨w8.heap.size, 0, none⟩) 1 1) [s] l A10 k10 rfl rfl ((show Rd (EM0 w8) 4 w8 A10 l from HX8.out.2).below (EM0.stays _) hb9) HA.out (by simp) (by simp; omega) (fun _ _ _ _ _ _ _ h => h) ?_; intro v9 w9 ho9 hg9; obtain ⟨A11, k11, hv9, _⟩ := ho9.form; subst hv9; have HO9 := Lib.hid (And.intro ho9 (HA.out.grows hg9 hb9 (Nat.le_refl _) (by simp))); clear ho9 hg9)
          go_ret2
          rw [HL.out]
          have h89 := HO9.out.2
          obtain ⟨A12, k12, e12, _, hr12⟩ := (HO9.out.1.imp (E' := EM) (Nat.le_refl _) fun x cs h => EM.stays _ _ _ _ h89 h).rd (by simp; omega)
          cases e12
          exact ⟨_, _, rfl, hr12, hBF.trans (h89.mono hBF.size)⟩
      · obtain rfl : x = ys.length := by omega
        have HL := Lib.hid (show rsearch d N c = none by
          obtain ⟨e1, e2⟩ := HN.out
          rw [e1]
          unfold rsearch
          rw [← e2, HE.out.1]
          have := HFD.out
          rwa [List.take_length] at this)
        go_wp2
        go_ret2
        rw [HL.out]
        have hBF := HP.out.2.2.trans ((hB1.trans (hB8.mono hB1.size)).mono HP.out.2.2.size)
        exact ⟨none, 0, rfl, Rd.nil _ _ _ _, hBF⟩
end Go.Proofs.YtfommmijojfdbaaGreatDoor
namespace Go.Proofs.YtfommmijojfdbaaGreatDoor
open Go.RowKit

theorem fs_congr {α β : Type} {l : List α} {f g : α → Option β} (h : ∀ x ∈ l, f x = g x) : l.findSome? f = l.findSome? g := by
  induction l with
  | nil => rfl
  | cons a l ih => rw [List.findSome?_cons, List.findSome?_cons, h a (by simp), ih fun x hx => h x (by simp [hx])]
theorem fs_flat {α β γ : Type} {f : α → List β} {g : β → Option γ} : ∀ l : List α, (l.flatMap f).findSome? g = l.findSome? fun x => (f x).findSome? g
  | [] => rfl
  | a :: l => by
    rw [List.flatMap_cons, List.findSome?_append, List.findSome?_cons, fs_flat l]
    cases (f a).findSome? g <;> rfl
theorem fs_map {α β γ : Type} {f : α → β} {g : β → Option γ} : ∀ l : List α, (l.map f).findSome? g = l.findSome? fun x => g (f x)
  | [] => rfl
  | a :: l => by rw [List.map_cons, List.findSome?_cons, List.findSome?_cons, fs_map l]
theorem map_fs {α β γ : Type} {f : α → Option β} {g : β → γ} : ∀ l : List α, (l.findSome? f).map g = l.findSome? fun x => (f x).map g
  | [] => rfl
  | a :: l => by
    rw [List.findSome?_cons, List.findSome?_cons, ← map_fs l]
    cases f a <;> rfl
theorem fs_none {α β : Type} {l : List α} {f : α → Option β} (h : ∀ x ∈ l, f x = none) : l.findSome? f = none := by
  rw [fs_congr h]
  induction l with
  | nil => rfl
  | cons a l ih => rw [List.findSome?_cons]; exact ih fun x hx => h x (by simp [hx])
theorem stepsL_apply {c : C} {i : Nat} {back : Bool} (hi : i < 44) (hf : fitB i back = true) (hG : Good c) : ∀ x ∈ stepsL c i back, (applyR c x.1).2.1 = x.2 ∧ Good x.2 ∧ x.2.wires = c.wires ∧ x.2.bits = c.bits := fun x hx => by
  obtain ⟨h1, h2, h3, ⟨p, h4⟩, _, h6⟩ := stepsL_good hi hf hG x hx
  have e : applyR c x.1 = (0, x.2, p) := by unfold applyR; rw [if_pos h1]; exact h4
  exact ⟨by rw [e], h6, (step_good hG e).2⟩
theorem firstN_take : ∀ (n : Nat) (xs ys : List G), xs.take n = ys.take n → n ≤ xs.length → n ≤ firstN xs ys
  | 0, _, _, _, _ => Nat.zero_le _
  | n + 1, [], _, _, h => by simp at h
  | n + 1, x :: xs, [], h, _ => by simp at h
  | n + 1, x :: xs, y :: ys, h, hl => by
    simp only [List.take_succ_cons, List.cons.injEq] at h
    unfold firstN
    rw [if_pos h.1]
    have := firstN_take n xs ys h.2 (by simpa using hl)
    omega
theorem stepsL_ends {c : C} {i : Nat} {back : Bool} (hi : i < 44) (hf : fitB i back = true) (hG : Good c) : ∀ x ∈ stepsL c i back, (x.2.gates.length : Int) - c.gates.length = ((toG i back).length : Int) - (fromG i back).length ∧ x.1.at_ ≤ (firstN c.gates x.2.gates : Int) := fun x hx => by
  obtain ⟨h1, h2, h3, ⟨p, h4⟩, _, h6⟩ := stepsL_good hi hf hG x hx
  have hat : 0 ≤ x.1.at_ ∧ x.1.at_ ≤ c.gates.length := by
    unfold moveE at h1
    split at h1
    · cases h1
    · split at h1
      · cases h1
      · omega
  unfold stepR at h4
  by_cases h43 : i = 43
  · subst h43
    have e1 : (fromG 43 back).length = 0 := by cases back <;> decide
    have e2 : (toG 43 back).length = 0 := by cases back <;> decide
    rw [h2, if_pos (by decide)] at h4
    unfold stepX at h4
    split at h4
    · simp only [Prod.mk.injEq] at h4
      rw [← h4.2.1]
      dsimp only
      rw [swapG_length, e1, e2]
      refine ⟨by omega, ?_⟩
      have := firstN_take x.1.at_.toNat c.gates (swapG c.gates x.1.at_.toNat) (by
        unfold swapG
        split
        · rw [List.take_set_of_le (by omega), List.take_set_of_le (Nat.le_refl _)]
        · rfl) (by omega)
      omega
    · simp only [Prod.mk.injEq] at h4
      cases h4.1
  · rw [h2, if_neg (by omega), Int.toNat_natCast, h3] at h4
    unfold stepN at h4
    split at h4
    · simp only [Prod.mk.injEq] at h4; cases h4.1
    split at h4
    · simp only [Prod.mk.injEq] at h4; cases h4.1
    rename_i hn _
    simp only [Prod.mk.injEq] at h4
    rw [← h4.2.1]
    unfold notThere at hn
    simp only [Bool.or_eq_true, decide_eq_true_eq, not_or, Nat.not_lt] at hn
    have e1 : (fromOn i back x.1.wires).length = (fromG i back).length := by simp [fromOn]
    have e2 : (toOn i back x.1.wires).length = (toG i back).length := by simp [toOn]
    dsimp only
    constructor
    · simp only [List.length_append, List.length_take, List.length_drop]
      omega
    · have := firstN_take x.1.at_.toNat c.gates (c.gates.take x.1.at_.toNat ++ toOn i back x.1.wires ++ c.gates.drop (x.1.at_.toNat + (fromOn i back x.1.wires).length)) (by
        rw [List.append_assoc, List.take_left' (by rw [List.length_take]; omega)]) (by omega)
      omega
theorem find_steps {c d : C} : ∀ (l : List (M × C)), (∀ x ∈ l, lastOk c d x.1 = decide (x.2 = d)) → ((l.map Prod.fst).find? (lastOk c d)).map (fun s => [s]) = l.findSome? fun x => (if x.2 = d then some ([] : List M) else none).map (x.1 :: ·)
  | [], _ => rfl
  | x :: l, h => by
    have ih := find_steps l fun y hy => h y (List.mem_cons_of_mem _ hy)
    rw [List.map_cons, List.find?_cons, List.findSome?_cons, h x List.mem_cons_self]
    by_cases e : x.2 = d
    · rw [if_pos e, decide_eq_true e]; rfl
    · rw [if_neg e, decide_eq_false e]; exact ih
theorem last_eq {c d : C} (hG : Good c) : (lastR c d).map (fun s => [s]) = reachedL 1 c d := by
  unfold lastR reachedL
  rw [map_fs]
  refine fs_congr fun i hi => ?_
  rw [List.mem_range] at hi
  unfold lastF
  rw [map_fs]
  refine fs_congr fun back _ => ?_
  unfold lastAt
  by_cases hf : fitB i back = true
  · rw [if_pos hf]
    have hst := stepsL_ends hi hf hG
    have hap := stepsL_apply hi hf hG
    split
    · rename_i hs
      refine (fs_none fun x hx => ?_).symm
      unfold reachedL
      rw [if_neg]
      · rfl
      · intro e
        have h1 := (hst x hx).1
        rw [e] at h1
        have h43 : (decide (i = 43) && back) = false := by unfold fitB at hf; cases hb : (decide (i = 43) && back) with
          | false => rfl
          | true => rw [hb] at hf; cases hf
        unfold skipB at hs
        rw [h43, Bool.or_false, bne_iff_ne] at hs
        exact hs h1.symm
    · rw [fit_eq hi hf hG]
      refine (find_steps _ fun x hx => ?_).trans ?_
      · unfold lastOk
        rw [(hap x hx).1]
        by_cases e : x.2 = d
        · have := (hst x hx).2
          rw [e] at this
          rw [decide_eq_true e, decide_eq_true this]; rfl
        · rw [decide_eq_false e, Bool.and_false]
      · rfl
  · rw [if_neg hf]
    have h43 : (decide (i = 43) && back) = true := by unfold fitB at hf; cases hb : (decide (i = 43) && back) with
      | true => rfl
      | false => rw [hb] at hf; exact absurd rfl hf
    have : skipB c d i back = true := by unfold skipB; rw [h43, Bool.or_true]
    rw [if_pos this]; rfl
theorem search_eq {d : C} : ∀ (n : Nat) (c : C), Good c → rsearch d n c = reachedL n c d
  | 0, _, _ => rfl
  | 1, c, hG => last_eq hG
  | n + 2, c, hG => by
    unfold rsearch reachedL allR
    rw [fs_flat]
    refine fs_congr fun i hi => ?_
    rw [List.mem_range] at hi
    have key : ∀ back, fitB i back = true → (fitR c i back).findSome? (fun s => (rsearch d (n + 1) (applyR c s).2.1).map (s :: ·)) = (stepsL c i back).findSome? fun x => (reachedL (n + 1) x.2 d).map (x.1 :: ·) := fun back hf => by
      rw [fit_eq hi hf hG, fs_map]
      refine fs_congr fun x hx => ?_
      obtain ⟨h1, h2, _⟩ := stepsL_apply hi hf hG x hx
      rw [h1, search_eq (n + 1) x.2 h2]
    unfold allF
    rw [List.findSome?_append, key false (by unfold fitB; simp)]
    simp only [List.findSome?_cons, List.findSome?_nil]
    rw [if_pos (show fitB i false = true by unfold fitB; simp)]
    by_cases h43 : i = 43
    · rw [if_pos h43, if_neg (show ¬ fitB i true = true by unfold fitB; simp [h43])]
      cases (stepsL c i false).findSome? fun x => (reachedL (n + 1) x.2 d).map (x.1 :: ·) <;> rfl
    · have hf : fitB i true = true := by unfold fitB; simp [h43]
      rw [if_neg h43, if_pos hf, key true hf]
      cases (stepsL c i false).findSome? fun x => (reachedL (n + 1) x.2 d).map (x.1 :: ·) with
      | some _ => rfl
      | none =>
        cases (stepsL c i true).findSome? fun x => (reachedL (n + 1) x.2 d).map (x.1 :: ·) <;> rfl
end Go.Proofs.YtfommmijojfdbaaGreatDoor
namespace Go.Proofs.YtfommmijojfdbaaGreatDoor
open Go.RowKit

theorem plainE_of {c : C} (h : check c = 0) : plainE c = 0 ↔ c.gates.all plainG = true := by
  unfold plainE
  rw [if_pos h]
  by_cases hp : c.gates.all plainG = true
  · rw [if_pos hp]; simp [hp]
  · rw [if_neg hp]; simp [hp]
section
variable {c d : C} {most : Int}
theorem sr_c (h : check c ≠ 0) : SearchR c d most = (check c, []) := by unfold SearchR; rw [if_pos h]
theorem sr_d (h : check c = 0) (h2 : check d ≠ 0) : SearchR c d most = (check d, []) := by unfold SearchR; rw [if_neg (by rw [h]; simp), if_pos h2]
theorem sr_7 (h : check c = 0) (h2 : check d = 0) (h3 : c.gates.all plainG = false ∨ d.gates.all plainG = false ∨ c.wires ≠ d.wires ∨ c.bits ≠ d.bits) : SearchR c d most = (7, []) := by
  unfold SearchR
  rw [if_neg (by rw [h]; simp), if_neg (by rw [h2]; simp), if_pos]
  rcases h3 with h3 | h3 | h3
  · exact .inl fun e => by rw [(plainE_of h).1 e] at h3; cases h3
  · exact .inr (.inl fun e => by rw [(plainE_of h2).1 e] at h3; cases h3)
  · exact .inr (.inr h3)
theorem sr_8 (h : check c = 0) (h2 : check d = 0) (h3 : ¬ (c.gates.all plainG = false ∨ d.gates.all plainG = false ∨ c.wires ≠ d.wires ∨ c.bits ≠ d.bits)) :
    SearchR c d most = (if 8 < c.gates.length ∨ 3 < c.wires ∨ 8 < d.gates.length ∨ 3 < d.wires then (8, []) else if most < 0 ∨ 2 < most then (3, []) else
      match (List.range (most.toNat + 1)).findSome? fun n => reachedL n c d with
      | some l => (0, l)
      | none => (6, []) : Int × List M) := by
  have hn : ¬ (plainE c ≠ 0 ∨ plainE d ≠ 0 ∨ c.wires ≠ d.wires ∨ c.bits ≠ d.bits) := fun h4 => by
    apply h3
    rcases h4 with h4 | h4 | h4
    · exact .inl (by simpa using fun e => h4 ((plainE_of h).2 e))
    · exact .inr (.inl (by simpa using fun e => h4 ((plainE_of h2).2 e)))
    · exact .inr (.inr h4)
  unfold SearchR
  rw [if_neg (by rw [h]; simp), if_neg (by rw [h2]; simp), if_neg hn]
  rfl
end
def RetQ (x : Int × List M) (w : World) (e : Ending) (w' : World) : Prop := ∃ A9 k9, e = .returned (.tuple #[.slice A9 x.2.length k9, .int .i64 x.1]) ∧ RdM w' A9 x.2 ∧ Below w.heap.size w w'
theorem RetQ.no {x : Int × List M} {er : Int} {w w' : World} (h : x = (er, [])) (hb : Below w.heap.size w w') : RetQ x w (.returned (.tuple #[.slice none 0 0, .int .i64 er])) w' := by
  subst h
  exact ⟨none, 0, rfl, Rd.nil _ _ _ _, hb⟩

set_option maxRecDepth 1000000 in
set_option maxHeartbeats 16000000 in
theorem rSearch19_any (A D : Option Addr) (k m : Nat) (c d : C) (most : Int) (w : World) (h : RdG w A c.gates) (hk : c.gates.length ≤ k) (h' : RdG w D d.gates) (hm : d.gates.length ≤ m) :
    Calls Tryz.prog 34 #[.agg #[.int .i64 c.wires, .int .i64 c.bits, .slice A c.gates.length k], .agg #[.int .i64 d.wires, .int .i64 d.bits, .slice D d.gates.length m], .int .i64 most] w (RetQ (SearchR c d most) w) := by
  have HG := Lib.hid (And.intro h h')
  clear h h'
  go_enter Tryz.func34, Tryz.ntmps34
  go_upto_region 1 with fail
  obtain ⟨W1, hW1⟩ : ∃ W1, (w.alloc (.cells #[.int .i64 c.wires, .int .i64 c.bits, .slice A c.gates.length k] 24)).alloc (.cells #[.int .i64 d.wires, .int .i64 d.bits, .slice D d.gates.length m] 24) = W1 := ⟨_, rfl⟩
  have hb1 : Below w.heap.size w W1 := by rw [← hW1]; exact bl
  have p0 : W1.heap[w.heap.size]? = some (.cells #[.int .i64 c.wires, .int .i64 c.bits, .slice A c.gates.length k] 24 (0, 0)) := by rw [← hW1]; exact alloc_old (blk_alloc _ _ _ rfl)
  have p1 : W1.heap[w.heap.size + 1]? = some (.cells #[.int .i64 d.wires, .int .i64 d.bits, .slice D d.gates.length m] 24 (0, 0)) := by rw [← hW1]; exact blk_alloc _ _ _ (by simp)
  rw [hW1]
  clear hW1
  have HP := Lib.hid (And.intro p0 (And.intro p1 hb1))
  have HB1 := Lib.hid (Below.refl W1.heap.size W1)
  clear p0 p1 hb1
  obtain ⟨a0, a1, a2, af⟩ := cells3 (blk2 HB1.out HP.out.1)
  obtain ⟨b0, b1, b2, bf⟩ := cells3 (blk2 HB1.out HP.out.2.1)
  have hc := rCheck4_any A k c W1 (HG.out.1.bG HP.out.2.2) hk
  obtain ⟨q1, hq1⟩ : ∃ q, check c = q := ⟨_, rfl⟩
  rw [hq1] at hc
  go_wp2_with fail
  refine hc.mono ?_
  clear hc
  rintro e w2 ⟨rfl, hb⟩
  replace HB1 := Lib.hid (HB1.out.trans (hb.mono HB1.out.size))
  have HB := Lib.hid (HP.out.2.2.trans (HB1.out.mono HP.out.2.2.size))
  clear hb a0 a1 a2 af b0 b1 b2 bf
  obtain ⟨a0, a1, a2, af⟩ := cells3 (blk2 HB1.out HP.out.1)
  obtain ⟨b0, b1, b2, bf⟩ := cells3 (blk2 HB1.out HP.out.2.1)
  by_cases h1 : q1 = 0
  case neg =>
    have hne : (q1 != 0) = true := by simpa using h1
    have HX0 := Lib.hid (show SearchR c d most = (q1, []) by rw [sr_c (by rw [hq1]; exact h1), hq1])
    clear hq1 h1
    have HX := Lib.hid (show SearchR c d most = (q1, []) from HX0.out)
    go_wp2
    go_ret2
    exact RetQ.no HX.out HB.out
  have hne : (q1 != 0) = false := by simpa using h1
  have HC := Lib.hid (show check c = 0 by rw [hq1]; exact h1)
  clear hq1 h1
  have hc := rCheck4_any D m d w2 (HG.out.2.bG HB.out) hm
  obtain ⟨q2, hq2⟩ : ∃ q, check d = q := ⟨_, rfl⟩
  rw [hq2] at hc
  go_wp2_with fail
  refine hc.mono ?_
  clear hc
  rintro e w3 ⟨rfl, hb⟩
  replace HB1 := Lib.hid (HB1.out.trans (hb.mono HB1.out.size))
  have HB := Lib.hid (HP.out.2.2.trans (HB1.out.mono HP.out.2.2.size))
  clear hb a0 a1 a2 af b0 b1 b2 bf
  obtain ⟨a0, a1, a2, af⟩ := cells3 (blk2 HB1.out HP.out.1)
  obtain ⟨b0, b1, b2, bf⟩ := cells3 (blk2 HB1.out HP.out.2.1)
  by_cases h2 : q2 = 0
  case neg =>
    have hne2 : (q2 != 0) = true := by simpa using h2
    have HX0 := Lib.hid (show SearchR c d most = (q2, []) by rw [sr_d HC.out (by rw [hq2]; exact h2), hq2])
    clear hq2 h2
    have HX := Lib.hid (show SearchR c d most = (q2, []) from HX0.out)
    go_wp2
    go_ret2
    exact RetQ.no HX.out HB.out
  have hne2 : (q2 != 0) = false := by simpa using h2
  have HD := Lib.hid (show check d = 0 by rw [hq2]; exact h2)
  clear hq2 h2
  have hc := rPlain_any A k c w3 (HG.out.1.bG HB.out) hk
  obtain ⟨pc, hpc⟩ : ∃ q, c.gates.all plainG = q := ⟨_, rfl⟩
  rw [hpc] at hc
  have HPC := Lib.hid hpc
  clear hpc
  go_wp2_with fail
  refine hc.mono ?_
  clear hc
  rintro e w4 ⟨rfl, hb⟩
  replace HB1 := Lib.hid (HB1.out.trans (hb.mono HB1.out.size))
  have HB := Lib.hid (HP.out.2.2.trans (HB1.out.mono HP.out.2.2.size))
  clear hb a0 a1 a2 af b0 b1 b2 bf
  obtain ⟨a0, a1, a2, af⟩ := cells3 (blk2 HB1.out HP.out.1)
  obtain ⟨b0, b1, b2, bf⟩ := cells3 (blk2 HB1.out HP.out.2.1)
  cases pc with
  | false =>
    have HX := Lib.hid (show SearchR c d most = (7, []) from sr_7 HC.out HD.out (.inl HPC.out))
    go_wp2
    go_ret2
    exact RetQ.no HX.out HB.out
  | true =>
  have hc := rPlain_any D m d w4 (HG.out.2.bG HB.out) hm
  obtain ⟨pd, hpd⟩ : ∃ q, d.gates.all plainG = q := ⟨_, rfl⟩
  rw [hpd] at hc
  have HPD := Lib.hid hpd
  clear hpd
  go_wp2_with fail
  refine hc.mono ?_
  clear hc
  rintro e w5 ⟨rfl, hb⟩
  replace HB1 := Lib.hid (HB1.out.trans (hb.mono HB1.out.size))
  have HB := Lib.hid (HP.out.2.2.trans (HB1.out.mono HP.out.2.2.size))
  clear hb a0 a1 a2 af b0 b1 b2 bf
  obtain ⟨a0, a1, a2, af⟩ := cells3 (blk2 HB1.out HP.out.1)
  obtain ⟨b0, b1, b2, bf⟩ := cells3 (blk2 HB1.out HP.out.2.1)
  cases pd with
  | false =>
    have HX := Lib.hid (show SearchR c d most = (7, []) from sr_7 HC.out HD.out (.inr (.inl HPD.out)))
    go_wp2
    go_ret2
    exact RetQ.no HX.out HB.out
  | true =>
  have HGc := Lib.hid (show Good c from ⟨HC.out, HPC.out⟩)
  have HGd := Lib.hid (show Good d from ⟨HD.out, HPD.out⟩)
  by_cases hw : c.wires = d.wires
  case neg =>
    have hwn : (c.wires != d.wires) = true := by simpa using hw
    have HW := Lib.hid hw
    clear hw
    have HX := Lib.hid (show SearchR c d most = (7, []) from sr_7 HC.out HD.out (.inr (.inr (.inl HW.out))))
    go_wp2
    go_ret2
    exact RetQ.no HX.out HB.out
  by_cases hbt : c.bits = d.bits
  case neg =>
    have hwn : (c.wires != d.wires) = false := by simpa using hw
    have hbn : (c.bits != d.bits) = true := by simpa using hbt
    have HW := Lib.hid hbt
    clear hbt hw
    have HX := Lib.hid (show SearchR c d most = (7, []) from sr_7 HC.out HD.out (.inr (.inr (.inr HW.out))))
    go_wp2
    go_ret2
    exact RetQ.no HX.out HB.out
  have hwn : (c.wires != d.wires) = false := by simpa using hw
  have hbn : (c.bits != d.bits) = false := by simpa using hbt
  have HW := Lib.hid hw
  have H8 := Lib.hid (sr_8 (most := most) HC.out HD.out (by rw [HPC.out, HPD.out]; simp [hw, hbt]))
  clear hw hbt
  by_cases g1 : 8 < c.gates.length
  · have g1' : (8 : Int) < (c.gates.length : Int) := by omega
    have HX := Lib.hid (show SearchR c d most = (8, []) from by rw [H8.out, if_pos (.inl g1)])
    go_wp2
    go_ret2
    exact RetQ.no HX.out HB.out
  have g1' : ¬ (8 : Int) < (c.gates.length : Int) := by omega
  by_cases g2 : 8 < d.gates.length
  · have g2' : (8 : Int) < (d.gates.length : Int) := by omega
    have HX := Lib.hid (show SearchR c d most = (8, []) from by rw [H8.out, if_pos (.inr (.inr (.inl g2)))])
    go_wp2
    go_ret2
    exact RetQ.no HX.out HB.out
  have g2' : ¬ (8 : Int) < (d.gates.length : Int) := by omega
  by_cases g3 : 3 < c.wires
  · have HX0 := Lib.hid (show SearchR c d most = (8, []) by rw [H8.out, if_pos (.inr (.inl g3))])
    have HX := Lib.hid (show SearchR c d most = (8, []) from HX0.out)
    go_wp2
    go_ret2
    exact RetQ.no HX.out HB.out
  have H3 := Lib.hid (show SearchR c d most = _ from H8.out.trans (if_neg (by rw [← HW.out]; omega)))
  by_cases g4 : most < 0
  · have HX0 := Lib.hid (show SearchR c d most = (3, []) by rw [H3.out, if_pos (.inl g4)])
    have HX := Lib.hid (show SearchR c d most = (3, []) from HX0.out)
    go_wp2
    go_ret2
    exact RetQ.no HX.out HB.out
  by_cases g5 : 2 < most
  · have HX0 := Lib.hid (show SearchR c d most = (3, []) by rw [H3.out, if_pos (.inr g5)])
    have HX := Lib.hid (show SearchR c d most = (3, []) from HX0.out)
    go_wp2
    go_ret2
    exact RetQ.no HX.out HB.out
  have H0 := Lib.hid (show SearchR c d most = _ from H3.out.trans (if_neg (by omega)))
  obtain ⟨M0, rfl⟩ : ∃ n : Nat, most = n := ⟨most.toNat, by omega⟩
  rw [Int.toNat_natCast] at H0
  have hM0 : M0 ≤ 2 := by omega
  have g4' : decide ((M0 : Int) < 0) = false := by simp
  have g5' : decide (2 < (M0 : Int)) = false := by simp; omega
  clear g4 g5 H3 H8
  go_wp2
  go_loopw [10, 11, 12] (fun dp _ _ wr => ∃ j : Nat, j ≤ M0 + 1 ∧ dp = .int .i64 j ∧ Hid ((List.range j).findSome? (fun n => reachedL n c d) = none) ∧ Below W1.heap.size W1 wr) (fun dp _ _ _ => M0 + 1 - (intOf dp).toNat)
  case atStart => exact ⟨0, Nat.zero_le _, rfl, Lib.hid rfl, HB1.out⟩
  case round =>
    clear HB HB1 a0 a1 a2 af b0 b1 b2 bf
    obtain ⟨j, hj, rfl, HN, hB⟩ := hrel
    rename World => wr
    have HB := Lib.hid (HP.out.2.2.trans (hB.mono HP.out.2.2.size))
    by_cases hlt : j < M0 + 1
    · have hle : (j : Int) ≤ (M0 : Int) := by omega
      obtain ⟨a0, a1, a2, af⟩ := cells3 (blk2 hB HP.out.1)
      obtain ⟨b0, b1, b2, bf⟩ := cells3 (blk2 hB HP.out.2.1)
      have hc := rSearch78_any d HGd.out j A D k m c wr (by omega) (HG.out.1.bG HB.out) hk HGc.out (HG.out.2.bG HB.out) hm
      rw [search_eq j c HGc.out] at hc
      obtain ⟨o, ho⟩ : ∃ o, reachedL j c d = o := ⟨_, rfl⟩
      rw [ho] at hc
      have HO := Lib.hid ho
      clear ho
      go_wp2_with fail
      refine hc.mono ?_
      clear hc
      rintro e w6 ⟨A9, k9, rfl, hr, hb⟩
      have HR := Lib.hid (And.intro hr (And.intro (hB.trans (hb.mono hB.size)) (HB.out.trans (hb.mono HB.out.size))))
      clear hr hb a0 a1 a2 af b0 b1 b2 bf
      cases o with
      | none =>
        go_wp2
        go_roundw
        case rel => exact ⟨j + 1, by omega, by go_num, Lib.hid (by rw [range_find, HN.out, HO.out]; rfl), HR.out.2.1⟩
        case measure => simp [intOf]; omega
      | some l =>
        have HX := Lib.hid (show SearchR c d M0 = (0, l) by rw [H0.out, find_at hlt HN.out HO.out])
        simp only [Option.getD_some, Option.isSome_some] at HR ⊢
        go_wp2
        go_ret2
        exact ⟨A9, k9, by rw [HX.out]; rfl, by rw [HX.out]; exact HR.out.1, HR.out.2.2⟩
    · obtain rfl : j = M0 + 1 := by omega
      have hle : ¬ ((M0 + 1 : Nat) : Int) ≤ (M0 : Int) := by omega
      have HX := Lib.hid (show SearchR c d M0 = (6, []) by rw [H0.out, HN.out])
      go_wp2
      go_ret2
      exact RetQ.no HX.out HB.out
end Go.Proofs.YtfommmijojfdbaaGreatDoor
