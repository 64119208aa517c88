/- Part 28 of the proof that 'spoondriftlaw19.RulesApplies' holds for every input; it has no condition beyond the statement's own. -/
import Derived.Test.YtfommmijojfdbaaGreatDoorZ26
import Derived.Test.YtfommmijojfdbaaGreatDoorZ09
import Derived.Test.YtfommmijojfdbaaGreatDoorZ04
set_option linter.all false
namespace Go.Proofs.YtfommmijojfdbaaGreatDoor
open Go.RowKit
theorem onW_snoc (ws l : List Int) (j : Nat) (h : j < l.length) : onW ws (l.take (j + 1)) = onW ws (l.take j) ++ [ws.getD l[j].toNat 0] := by
  unfold onW
  rw [List.take_succ_eq_append_getElem h, List.map_append]
  rfl
set_option maxRecDepth 100000 in
set_option maxHeartbeats 8000000 in
theorem rMoved_any (A B : Option Addr) (n c m d : Nat) (xs : List G) (ws : List Int) (w : World) (h : RdG w A xs) (hn : xs.length = n) (h' : RdI w B ws) (hm : ws.length = m) (hx : ∀ g ∈ xs, g.bit = 0 ∧ g.cif = 0 ∧ g.wires.length ≤ 100 ∧ ∀ k ∈ g.wires, 0 ≤ k ∧ k < ws.length) (hl : xs.length ≤ 1000) :
    Calls Tryz.prog 98 #[.slice A n c, .slice B m d] w fun e w' => ∃ v, e = .returned v ∧ Own 3 55 w.heap.size w' v (xs.map (onG ws)) ∧ Below w.heap.size w w' := by
  subst hn
  subst hm
  have HR := Lib.hid (And.intro h h')
  have HX := Lib.hid hx
  clear hx h h'
  go_enter Tryz.func98, Tryz.ntmps98
  go_wp2
  go_loopw [5, 13] (fun v i wr => ∃ k : Nat, k ≤ xs.length ∧ i = .int .i64 k ∧ Hid (Own 3 55 w.heap.size wr v ((xs.take k).map (onG ws))) ∧ Below w.heap.size w wr) (fun _ i _ => xs.length - (intOf i).toNat)
  case atStart => exact ⟨0, Nat.zero_le _, rfl, Lib.hid ⟨[], by simp, List.Pairwise.nil, App.nil _ _ _ _ _⟩, Below.refl _ _⟩
  case round =>
    obtain ⟨k, hk, rfl, HO, hB⟩ := hrel
    rename World => wo
    by_cases hlt : k < xs.length
    · obtain ⟨b, o, B2, c2, rfl, g0, g1, g2, g3, hc2, hr2⟩ := (HR.out.1.bG hB).gate k hlt
      obtain ⟨g, hg⟩ : ∃ g, xs[k] = g := ⟨_, rfl⟩
      rw [hg] at g0 g1 g2 g3 hc2 hr2
      obtain ⟨hgb, hgc, hgl, hgw⟩ := HX.out g (hg ▸ List.getElem_mem hlt)
      rw [hgb] at g2
      rw [hgc] at g3
      have HW := Lib.hid hgw
      have hgl2 := hr2.1
      obtain ⟨ps, hps, hd, ho⟩ := HO.out
      obtain rfl : ps.length = k := by have := congrArg List.length hps; simp at this; omega
      obtain ⟨A5, c5, rfl, hc5⟩ := ho.form
      have HG := Lib.hid (And.intro hg (And.intro hps (And.intro hd (And.intro hgb hgc))))
      have HA := Lib.hid ho
      have HRI := Lib.hid hr2
      have hold := olds wo
      have lb := cell_lt g0
      clear hg hps hd ho hr2 hgb hgc hgw
      go_upto_region 6 with fail
      obtain ⟨w1, hw1⟩ : ∃ w1, (wo.alloc (.cells #[.int .i64 g.kind, .slice B2 g.wires.length c2, .int .i64 0, .int .i64 0] 55)).alloc (.cells #[.int .i64 g.kind, .slice none 0 0, .int .i64 0, .int .i64 0] 55) = w1 := ⟨_, rfl⟩
      have hb1 : Below wo.heap.size wo w1 := by rw [← hw1]; (repeat (first|exact bR _ _|assumption|apply bN|apply bA|apply bD))
      have hz1 : wo.heap.size + 2 ≤ w1.heap.size := by rw [← hw1]; simp
      have p0 : w1.heap[wo.heap.size]? = some (.cells #[.int .i64 g.kind, .slice B2 g.wires.length c2, .int .i64 0, .int .i64 0] 55 (0, 0)) := by rw [← hw1]; exact alloc_old (blk_alloc _ _ _ rfl)
      have p1 : w1.heap[wo.heap.size + 1]? = some (.cells #[.int .i64 g.kind, .slice none 0 0, .int .i64 0, .int .i64 0] 55 (0, 0)) := by rw [← hw1]; exact blk_alloc _ _ _ (by simp)
      rw [hw1]
      clear hw1 hold g0 g1 g2 g3 lb
      obtain ⟨k0, k1, k2, k3, kf⟩ := cells4 p0
      have HS := Lib.hid (show ∃ v, w1.heap[wo.heap.size + 1]? = some (.cells #[.int .i64 g.kind, v, .int .i64 0, .int .i64 0] 55 (0, 0)) ∧ App EI 3 1 (wo.heap.size + 2) w1 v (onW ws (g.wires.take 0)) ∧ Below wo.heap.size wo w1 ∧ wo.heap.size + 2 ≤ w1.heap.size from ⟨_, p1, App.nil _ _ _ _ _, hb1, hz1⟩)
      clear hb1 hz1 p0 p1
      go_wp2
      go_loopw [10, 23] (fun _ i wr => ∃ j : Nat, j ≤ g.wires.length ∧ i = .int .i64 j ∧ Hid (∃ v, wr.heap[wo.heap.size + 1]? = some (.cells #[.int .i64 g.kind, v, .int .i64 0, .int .i64 0] 55 (0, 0)) ∧ App EI 3 1 (wo.heap.size + 2) wr v (onW ws (g.wires.take j)) ∧ Below wo.heap.size wo wr ∧ wo.heap.size + 2 ≤ wr.heap.size)) (fun _ i _ => g.wires.length - (intOf i).toNat)
      case atStart => exact ⟨0, Nat.zero_le _, rfl, HS⟩
      case round =>
        clear HS k0 k1 k2 k3 kf w1
        obtain ⟨j, hj, rfl, HI⟩ := hrel
        obtain ⟨v, e1, e2, e3, e4⟩ := HI.out
        obtain ⟨A6, c6, hv, hc6⟩ := e2.form
        subst hv
        obtain ⟨q0, q1, q2, q3, qf⟩ := cells4 e1
        have hlo : (onW ws (g.wires.take j)).length = j := by simp [onW]; omega
        by_cases hlt2 : j < g.wires.length
        · obtain ⟨b3, o3, rfl, hx0⟩ := (HRI.out.bI e3).int j hlt2
          obtain ⟨y, hy⟩ : ∃ y, g.wires[j] = y := ⟨_, rfl⟩
          have hyw := HW.out y (hy ▸ List.getElem_mem hlt2)
          obtain ⟨yn, rfl⟩ : ∃ yn : Nat, y = yn := ⟨y.toNat, by omega⟩
          have hyn : yn < ws.length := by omega
          obtain ⟨b4, o4, rfl, hx1⟩ := (HR.out.2.bI (hB.trans (e3.mono hB.size))).int yn hyn
          have HY := Lib.hid (show onW ws (g.wires.take (j + 1)) = onW ws (g.wires.take j) ++ [ws[yn]] by
            rw [onW_snoc _ _ _ hlt2, hy, Int.toNat_natCast]
            simp [List.getD, List.getElem?_eq_getElem hyn])
          obtain ⟨z, hz⟩ : ∃ z, ws[yn] = z := ⟨_, rfl⟩
          have HZ := Lib.hid hz
          rw [hz] at hx1 HY
          rw [hy] at hx0
          have hwl := HR.out.2.1
          have HE := Lib.hid (And.intro e1 (And.intro e2 (And.intro e3 e4)))
          have hbl := blk_lt e1
          have hold := olds wr
          have hlx := cell_lt hx0
          have hly := cell_lt hx1
          clear e1 e2 e3 HI hy hz hyw
          rw [hlo] at q1
          go_wp2
          refine wp_region_sg (by kernel_rfl) [0, 1, 2, 3, 4, 5, 6, 7, 8, 9] (by kernel_rfl) (by kernel_rfl) (by kernel_rfl) ?_
          refine SG.p (v := ?v1_9_0) rfl rfl rfl (fun W => ?h1_9_0) ?r1_9_0
          case h1_9_0 => (first|(go_simp;done)|(go_simp;with_reducible rfl))
          simp only [Act.put, pA, pB, pC]
          refine SG.l (v := ?v1_9_1) rfl rfl rfl ?h1_9_1 ?r1_9_1
          case h1_9_1 => (first|(go_simp;done)|(go_simp;with_reducible rfl))
          simp only [Act.put, pA, pB, pC]
          refine SG.p (v := ?v1_9_2) rfl rfl rfl (fun W => ?h1_9_2) ?r1_9_2
          case h1_9_2 => (first|(go_simp;done)|(go_simp;with_reducible rfl))
          simp only [Act.put, pA, pB, pC]
          refine SG.p (v := ?v1_9_3) rfl rfl rfl (fun W => ?h1_9_3) ?r1_9_3
          case h1_9_3 => (first|(go_simp;done)|(go_simp;with_reducible rfl))
          simp only [Act.put, pA, pB, pC]
          refine SG.p (v := ?v1_9_4) rfl rfl rfl (fun W => ?h1_9_4) ?r1_9_4
          case h1_9_4 => (first|(go_simp;done)|(go_simp;with_reducible rfl))
          simp only [Act.put, pA, pB, pC]
          refine SG.l (v := ?v1_9_5) rfl rfl rfl ?h1_9_5 ?r1_9_5
          case h1_9_5 => (first|(go_simp;done)|(go_simp;with_reducible rfl))
          simp only [Act.put, pA, pB, pC]
          refine SG.v (v := ?v1_9_6) (w' := ?w1_9_6) rfl rfl rfl ?h1_9_6 ?s1_9_6 ?r1_9_6
          case h1_9_6 => (first|(go_simp;done)|(go_simp;with_reducible rfl)|(go_simp;constructor<;>with_reducible rfl))
          case s1_9_6 => exact ⟨(nw (by kernel_rfl)), (fun _ => ⟨_, drop_at rfl, by (first|(go_simp;done)|(go_simp;with_reducible rfl))⟩), trivial⟩
          simp only [Act.put, pA, pB, pC]
          refine SG.app (E := EI) (W := wr.drew) 3 1 (wo.heap.size + 2) rfl rfl _ _ 25 (.int .i64 0) 8 rfl Tryz.underlying25 (by kernel_rfl) rfl (by decide) (by decide) (.slice A6 j c6) (onW ws (g.wires.take j)) z [.int .i64 z] rfl rfl rfl (by simp [Value.oneCell']) rfl (by have := HE.out.2.1; rw [hlo] at this; exact this.below EI.stays (by (repeat (first|exact bR _ _|assumption|apply bN|apply bA|apply bD)))) (by simpa using e4) (by omega) (fun _ _ _ _ _ _ _ h => h) ?_
          intro v1 w2 ho1 hg1
          obtain ⟨A7, c7, hv1, hc7⟩ := ho1.form
          rw [List.length_append, List.length_singleton, hlo] at hv1 hc7
          subst hv1
          have hne : some (wo.heap.size + 1) ≠ (Value.slice A6 j c6).ownBlock := fun e => by
            have h1 := HE.out.2.1
            rw [hlo] at h1
            rcases h1.block with h | ⟨k', h, h', _⟩
            · rw [h] at e; cases e
            · rw [h] at e; cases e; omega
          have hb2 : Below wo.heap.size wo w2 := App.grows (w0 := wo) (show App EI 3 1 (wo.heap.size + 2) wr.drew (.slice A6 j c6) (onW ws (g.wires.take j)) by have := HE.out.2.1; rw [hlo] at this; exact this.below EI.stays (by (repeat (first|exact bR _ _|assumption|apply bN|apply bA|apply bD)))) hg1 (by have := HE.out.2.2.1; (repeat (first|exact bR _ _|assumption|apply bN|apply bA|apply bD))) (by omega) (by simp; omega)
          obtain ⟨_, _, hA4, hx1'⟩ := (HR.out.2.bI (hB.trans (hb2.mono hB.size))).int yn hyn
          cases hA4
          rw [HZ.out] at hx1'
          clear hx1
          have q1' := (hg1.block (wo.heap.size + 1) (by simpa using hbl) hne).trans HE.out.1
          clear q0 q1 q2 q3 qf
          obtain ⟨q0, q1, q2, q3, qf⟩ := cells4 q1'
          have HG1 := Lib.hid (And.intro ho1 (And.intro hg1 (And.intro q1' hb2)))
          clear ho1 hg1 q1' hne hb2
          rw [hlo] at q1
          refine ⟨?_, ?_⟩
          · exact ⟨(fun _ => ⟨_, drop_at rfl, by (first|(go_simp;done)|(go_simp;with_reducible rfl))⟩), (nw (by kernel_rfl)), trivial⟩
          simp only [Act.put, pA, pB, pC]
          refine SG.p (v := ?v1_9_8) rfl rfl rfl (fun W => ?h1_9_8) ?r1_9_8
          case h1_9_8 => (first|(go_simp;done)|(go_simp;with_reducible rfl))
          simp only [Act.put, pA, pB, pC]
          refine SG.k (w' := ?w1_9_9) rfl rfl rfl ?h1_9_9 ?s1_9_9 ?r1_9_9
          case h1_9_9 => (first|(go_simp;done)|(go_simp;with_reducible rfl))
          case s1_9_9 => exact ⟨(nw (by kernel_rfl)), (nw (by kernel_rfl)), trivial⟩
          simp only [Act.put, pA, pB, pC]
          simp only [SG]
          go_wp2
          go_roundw
          case rel =>
            refine ⟨j + 1, by omega, by go_num, Lib.hid ⟨_, heap_setCell_same _ _ 1 _ _ _ HG1.out.2.2.1, ?_, ?_, ?_⟩⟩
            · rw [HY.out]
              exact HG1.out.1.setCell (by simp) _
            · exact HG1.out.2.2.2.setCell (by simp) _
            · have := HG1.out.2.1.size; simp at this ⊢; omega
          case measure => simp [intOf]; omega
        · obtain rfl : j = g.wires.length := by omega
          rw [List.take_of_length_le (Nat.le_refl _)] at e2 hlo
          rw [List.take_of_length_le (Nat.le_refl _), hlo] at q1
          rw [List.take_of_length_le (Nat.le_refl _), hlo] at e1
          rw [hlo] at e2
          have HD := Lib.hid (And.intro (HG.out.2.2.1.new (g := onG ws g) HA.out e2 (by omega)) (And.intro e2 e3))
          have hbw := hB.size
          have hold := olds wr
          have hbl := blk_lt e1
          clear e1 e2 e3 HI
          go_wp2_with (at_builtin; refine wp_app (E := EGv 3 w.heap.size) (W := wr) 55 4 w.heap.size rfl _ _ 22 (.agg #[.int .i64 0, .slice none 0 0, .int .i64 0, .int .i64 0]) 48 rfl Tryz.underlying22 (by kernel_rfl) rfl (by decide) (by decide) (.slice A5 ps.length c5) ps (onG ws g, .slice A6 g.wires.length c6) [.int .i64 g.kind, .slice A6 g.wires.length c6, .int .i64 0, .int .i64 0] rfl rfl rfl (by simp [Value.oneCell']) ⟨by simp only [onG, HG.out.2.2.2.1, HG.out.2.2.2.2], HD.out.2.1.imp (by omega) (fun _ _ h => h)⟩ (HA.out.below (EGv.stays _ _) HD.out.2.2) (by omega) (by omega) (fun _ _ _ h1 h2 _ _ h => h.other h1 h2 (by decide)) ?_; intro v5 w5 ho5 hg5; have HO5 := Lib.hid (And.intro ho5 hg5); clear ho5 hg5)
          go_roundw
          case rel =>
            refine ⟨ps.length + 1, by omega, by go_num, Lib.hid ⟨_, ?_, HD.out.1, HO5.out.1⟩, (HA.out.below (EGv.stays _ _) HD.out.2.2).grows HO5.out.2 (hB.trans (HD.out.2.2.mono hB.size)) (Nat.le_refl _) (by omega)⟩
            rw [List.map_append, HG.out.2.1, List.take_succ_eq_append_getElem hlt, List.map_append, HG.out.1]; rfl
          case measure => simp [intOf]; omega
    · have HO3 := Lib.hid (show Own 3 55 w.heap.size wo u5 (xs.map (onG ws)) from by
        have := HO.out
        rwa [List.take_of_length_le (by omega)] at this)
      go_wp2
      go_ret
      exact ⟨_, rfl, HO3.out, hB⟩
end Go.Proofs.YtfommmijojfdbaaGreatDoor
namespace Go.Proofs.YtfommmijojfdbaaGreatDoor
open Go.RowKit Go.Shelf
attribute [local go_sem] Oper.semAt_some
def invM (s : M) : M := { s with back := (s.rule != 43) && !s.back }
def InvertR (c : C) (l : List M) : Int × List M := if (FollowR c l).1 ≠ 0 then ((FollowR c l).1, []) else (0, l.reverse.map invM)
theorem EMo.bears (ti B : Nat) (hT : ti ≠ 4) : Bears (EMo ti B) := fun _ _ _ _ _ ⟨v, h1, h2⟩ hg hr => ⟨v, h1, h2.turn EI.bears hT hg hr⟩
theorem EMo.setT {ti B : Nat} {w : World} {a : Addr} {u : Value} {row : Array Value} {T' : TypeId} {fz : Nat × Nat} (hb : w.heap[a.block]? = some (.cells row T' fz)) (hT : ti ≠ T') (x : M) (cs : List Value) (h : EMo ti B w x cs) : EMo ti B (w.setCell a u) x cs := by
  obtain ⟨v, e, hv⟩ := h
  exact ⟨v, e, hv.setT hb hT fun _ _ h => h⟩
theorem backL_map (l : List M) : (backL l).map (fun x => invM x.1) = l.reverse.map invM := by
  have : l.zipIdx.map Prod.fst = l := by simp
  unfold backL
  rw [show (fun x : M × Nat => invM x.1) = invM ∘ Prod.fst from rfl, ← List.map_map, List.map_reverse, this]
set_option maxRecDepth 1000000 in
set_option maxHeartbeats 8000000 in
theorem Invert_any (A B : Option Addr) (k m : Nat) (c : C) (l : List M) (w : World) (HT : Hid (Laid w)) (h : RdG w A c.gates) (hk : c.gates.length ≤ k) (h' : RdM w B l) (hll : l.length ≤ 1000000) (hwl : ∀ s ∈ l, s.wires.length ≤ 1000000) :
    Calls Tryz.prog 31 #[.agg #[.int .i64 c.wires, .int .i64 c.bits, .slice A c.gates.length k], .slice B l.length m] w fun e w' => ∃ v, e = .returned (.tuple #[v, .int .i64 (InvertR c l).1]) ∧ App (EMo 3 w.heap.size) 27 4 w.heap.size w' v (InvertR c l).2 ∧ Below w.heap.size w w' := by
  have HH := Lib.hid (And.intro h (And.intro h' hwl))
  clear h h' hwl
  refine (callsIn_wide (n := 0)).1 (callsIn_of_wp_marks Tryz.func31 rfl trivial ?_ rfl)
  simp only [Tryz.ntmps31, List.size_toArray, List.length_cons, List.length_nil, Nat.reduceAdd, Nat.reduceSub, Array.replicate_succ, Array.replicate_zero, List.push_toArray, List.append_toArray, List.nil_append, List.cons_append]
  have hb1 : Below w.heap.size w (w.alloc (.cells #[.int .i64 c.wires, .int .i64 c.bits, .slice A c.gates.length k] 24)) := by (repeat (first|exact bR _ _|assumption|apply bN|apply bA|apply bD))
  have hfo := Follow_any A B k m c l (w.alloc (.cells #[.int .i64 c.wires, .int .i64 c.bits, .slice A c.gates.length k] 24)) (Lib.hid (HT.out.below hb1)) (HH.out.1.bG hb1) hk (HH.out.2.1.bM hb1)
  obtain ⟨⟨er, cc, ph⟩, hx⟩ : ∃ x, FollowR c l = x := ⟨_, rfl⟩
  rw [hx] at hfo
  gi_wp2_with fail
  obtain ⟨W1, hW1⟩ : ∃ W1, w.alloc (.cells #[.int .i64 c.wires, .int .i64 c.bits, .slice A c.gates.length k] 24) = W1 := ⟨_, rfl⟩
  have hz1 : W1.heap.size = w.heap.size + 1 := by rw [← hW1]; simp
  rw [hW1] at hfo hb1 ⊢
  refine ⟨trivial, rfl, CallsIn.mono (callsIn_wide.2 hfo) ?_⟩
  clear hfo hW1
  rintro e w2 ⟨v, rfl, ho, hb⟩
  obtain ⟨A9, c9, rfl, _⟩ := ho.form'
  have hb0 := hb1.trans (hb.mono hb1.size)
  have hz2 : w.heap.size + 1 ≤ w2.heap.size := by have := hb.size; omega
  clear ho hb
  by_cases he : er = 0
  · have HF := Lib.hid (show InvertR c l = (0, (backL l).map fun x => invM x.1) by unfold InvertR; rw [hx, backL_map]; simp [he])
    subst he
    clear hx
    dsimp only
    gi_wp2_with fail
    have hn2 : w.heap.size ≤ w2.heap.size := by omega
    obtain ⟨W3, hW3⟩ : ∃ W3, (w2.alloc (.cells #[.int .i64 cc.wires, .int .i64 cc.bits, .slice A9 cc.gates.length c9] 24)).alloc (.cells #[.slice none 0 0] 30) = W3 := ⟨_, rfl⟩
    have hb3 : Below w.heap.size w W3 := by rw [← hW3]; exact below_alloc (below_alloc hb0 _) _
    have hz3 : W3.heap.size = w2.heap.size + 2 := by rw [← hW3]; simp
    have p9 : W3.heap[w2.heap.size + 1]? = some (.cells #[.slice none 0 0] 30) := by rw [← hW3]; exact blk_alloc _ _ _ (by simp)
    rw [hW3]
    refine ⟨trivial, rfl, CallsIn.mono (callsIn_wide.2 (Backward_any B l.length m W3)) ?_⟩
    clear hW3
    rintro e w4 ⟨rfl, hw4⟩
    have hb4 : Below w.heap.size w w4 := by rw [hw4]; exact below_alloc hb3 _
    have hz4 : w4.heap.size = w2.heap.size + 3 := by rw [hw4]; simp [hz3]
    have pb : w4.heap[W3.heap.size]? = some (.cells #[.slice B l.length m] 30 (0, 0)) := by rw [hw4]; exact blk_alloc _ _ _ rfl
    replace p9 : w4.heap[w2.heap.size + 1]? = some (.cells #[.slice none 0 0] 30 (0, 0)) := by rw [hw4]; exact alloc_old p9
    have hit := backward1_iter W3.heap.size B m l w w4 HH.out.2.1 hb4 pb
    clear hw4
    dsimp only
    have hz34 : W3.heap.size < w4.heap.size := by omega
    have HZ3 := Lib.hid hz3
    clear hz3
    gi_wp2
    refine rf_law (gf := 122) (lb := #[.pointer (some ⟨W3.heap.size, 0, none⟩)]) rfl (enters_of Tryz.func122 (by kernel_rfl) rfl) hit (fun h k => h.trans k)
      (fun W l o o' hl _ hL => ⟨below_put o' (by omega) hl, World.putObj_heap_other (fun e => by omega)⟩) (fun _ _ _ ⟨_, _, h, _⟩ => by rw [h]; rfl)
      (fun pre W => ∃ v, W.heap[w2.heap.size + 1]? = some (.cells #[v] 30 (0, 0)) ∧ App (EMo 3 w4.heap.size) 27 4 w4.heap.size W v (pre.map fun x => invM x.1) ∧ Below w.heap.size w W ∧ w4.heap.size ≤ W.heap.size) (fun _ _ _ => False) ?hI (fun _ _ _ _ _ h _ _ => h) ?h0
      (fun x a' W => ∃ b A' d', a' = { tmps := #[.agg #[.int .i64 c.wires, .int .i64 c.bits, .slice A c.gates.length k], .slice B l.length m, .pointer (some ⟨w.heap.size, 0, none⟩), undef, .slice none 0 0, .int .i64 0, .pointer (some ⟨w2.heap.size, 0, none⟩), .int .i64 ph, .int .i64 0, .pointer (some ⟨w2.heap.size + 1, 0, none⟩), undef, .pointer (some ⟨b, 0, none⟩), .tuple #[.agg #[.int .i64 cc.wires, .int .i64 cc.bits, .slice A9 cc.gates.length c9], .int .i64 ph, .int .i64 0], .agg #[.int .i64 c.wires, .int .i64 c.bits, .slice A c.gates.length k], .slice B l.length m, .tuple #[.agg #[.int .i64 cc.wires, .int .i64 cc.bits, .slice A9 cc.gates.length c9], .int .i64 ph, .int .i64 0], .agg #[.int .i64 cc.wires, .int .i64 cc.bits, .slice A9 cc.gates.length c9], .int .i64 ph, .int .i64 0, .int .i64 0, .bool false, undef, .slice B l.length m, .func (.func 122) #[] #[.pointer (some ⟨W3.heap.size, 0, none⟩)], .int .i64 x.2, .agg #[.int .i64 x.1.rule, .int .i64 x.1.at_, .bool x.1.back, .slice A' x.1.wires.length d'], undef, undef, undef, undef, undef, undef, undef, undef, undef, undef, undef, undef, undef, undef, undef, undef, undef, undef], defers := [] } ∧ w4.heap.size ≤ b ∧ W.heap[b]? = some (.cells #[.int .i64 x.1.rule, .int .i64 x.1.at_, .bool x.1.back, .slice A' x.1.wires.length d'] 27 (0, 0)) ∧ x.1.wires.length ≤ d' ∧ RdI w A' x.1.wires ∧ ∃ v, W.heap[w2.heap.size + 1]? = some (.cells #[v] 30 (0, 0)) ∧ v.ownBlock ≠ some b) ?hAx ?assign ?body ?done (fun _ _ _ _ _ _ h _ => h.elim)
    case hI =>
      rintro s W W' row ⟨v, h1, h2, h3, h4⟩ hg hr
      exact ⟨v, abide_block (L := w4.heap.size) (fun _ : Unit => _) (by omega) () W W' row h1 hg hr, h2.turn (EMo.bears _ _ (by decide)) (by decide) hg (fun r e => (hr r e).2), abide_below (L := w4.heap.size) (by omega) (Nat.le_refl _) () W W' row h3 hg hr, Nat.le_trans h4 hg.size⟩
    case h0 => exact ⟨_, p9, App.nil _ _ _ _ _, hb4, Nat.le_refl _⟩
    case hAx =>
      rintro a' s W W' row ⟨b, A', d', h1, h2, h3, h4, h5, v, h6, h7⟩ hg hr
      refine ⟨b, A', d', h1, h2, (hg.block b (Array.getElem?_eq_some_iff.1 h3).1 fun e => ?_).trans h3, h4, h5, v, abide_block (L := w4.heap.size) (fun _ : Unit => _) (by omega) () W W' row h6 hg hr, h7⟩
      obtain ⟨o, ho, ht⟩ := (hr b e.symm).2
      rw [h3] at ho
      cases ho
      rcases ht with ht | ⟨q, hq⟩
      · cases ht
      · injection hq with _ h2'; exact absurd h2' (by decide)
    case assign =>
      rintro l0 pre x args W K ⟨v, h1, h2, h3, h4⟩ ⟨A', d', rfl, hd, hr⟩ hK
      have hszW := h3.size
      have hNl := blk_lt h1
      have HI := Lib.hid (And.intro h1 (And.intro h2 h3))
      have HR := Lib.hid hr
      have HK := Lib.hid hK
      clear h1 h2 h3 hr hK
      gi_wp2
      obtain ⟨h1, h2, h3⟩ := HI.out
      have hga := fun o : Obj => World.grownBy_alloc W o none
      exact HK.out _ _ (keepsFrom_of (hga _) (fun r e => by cases e)) ⟨(below_alloc (Below.refl _ _) _).mono h3.size, Below.heap_alloc _ _ _ (by omega)⟩ ⟨v, alloc_old h1, h2.turn (EMo.bears _ _ (by decide)) (by decide) (hga _) (fun r e => by cases e), below_alloc h3 _, by simp; omega⟩ ⟨W.heap.size, A', d', rfl, by omega, blk_alloc _ _ _ rfl, hd, HR.out, v, alloc_old h1, h2.fresh⟩
    case body =>
      rintro l0 pre x a' W ⟨v, h1, h2, h3, h4⟩ ⟨b, A', d', rfl, hbw, hbc, hd, hr, v', hv1, hv2⟩ hpre
      obtain rfl : v' = v := by rw [h1] at hv1; injection hv1 with e; injection e with e; simpa using e.symm
      dsimp only
      have hx1 : x.1 ∈ l := by
        have h5 : x ∈ backL l := hpre.mem (List.mem_append_right _ List.mem_cons_self)
        unfold backL at h5
        rw [List.mem_reverse] at h5
        obtain ⟨s0, i0⟩ := x
        exact (List.mem_zipIdx' h5).2 ▸ List.getElem_mem _
      obtain ⟨A8, c8, rfl, _⟩ := h2.form
      have hc9 := Boxed.cell h1
      obtain ⟨k0, k1, k2, k3, kf⟩ := cells4 hbc
      have hwx := HH.out.2.2 _ hx1
      have hbl := blk_lt hbc
      have hn1 : (b = w2.heap.size + 1) = False := by simp; omega
      have hn2 : (w2.heap.size + 1 = b) = False := by simp; omega
      have hz4a : w2.heap.size + 1 < w4.heap.size := by omega
      have HZ4 := Lib.hid hz4
      clear hz4
      have HI := Lib.hid (And.intro h1 (And.intro h2 (And.intro h3 (And.intro hbc hr))))
      clear h1 h2 h3 hr hbc
      obtain ⟨bk, hbk⟩ : ∃ bk, ((x.1.rule != 43) && !x.1.back) = bk := ⟨_, rfl⟩
      have HBK := Lib.hid (show invM x.1 = { x.1 with back := bk } by unfold invM; rw [hbk])
      have hne : w2.heap.size + 1 ≠ b := by omega
      obtain ⟨h1, h2, h3, hbc, hr⟩ := HI.out
      have c1 := (heap_setCell_other W ⟨b, 2, none⟩ (w2.heap.size + 1) (.bool bk) hne).trans h1
      have c2 : (W.setCell ⟨b, 2, none⟩ (.bool bk)).heap[b]? = some (.cells #[.int .i64 x.1.rule, .int .i64 x.1.at_, .bool bk, .slice A' x.1.wires.length d'] 27 (0, 0)) := heap_setCell_same _ _ 2 _ _ _ hbc
      have c3 := h2.setNe (a := ⟨b, 2, none⟩) (u := .bool bk) hv2 (EMo.setT hbc (by decide))
      have c4 : Below w.heap.size w (W.setCell ⟨b, 2, none⟩ (.bool bk)) := h3.setCell (by simp; omega) _
      have c5 : w4.heap.size ≤ (W.setCell ⟨b, 2, none⟩ (.bool bk)).heap.size := by simpa using h4
      have hcl := Clone_any A' d' x.1.wires (W.setCell ⟨b, 2, none⟩ (.bool bk)) (hr.bI c4) hwx
      have HC := Lib.hid (And.intro c1 (And.intro c2 (And.intro c3 (And.intro c4 c5))))
      clear h1 h2 h3 hbc hr c1 c2 c3 c4 c5
      obtain ⟨q, hq⟩ : ∃ q, (x.1.rule != 43) = q := ⟨_, rfl⟩
      rw [hq] at hbk
      have hor : q = false ∧ false = bk ∨ q = true ∧ (!x.1.back) = bk := by
        cases q
        · exact .inl ⟨rfl, by rw [← hbk]; rfl⟩
        · exact .inr ⟨rfl, by rw [← hbk]; simp⟩
      clear hbk
      rcases hor with ⟨h43, rfl⟩ | ⟨h43, hbk⟩
      all_goals
        gi_wp2_with fail
        refine ⟨trivial, rfl, CallsIn.mono (callsIn_wide.2 hcl) ?_⟩
        clear hcl
        rintro e w5 ⟨v5, rfl, ho5, hb5⟩
        obtain ⟨A5, c5, rfl, _⟩ := ho5.form
        obtain ⟨c1, c2, c3, c4, c5'⟩ := HC.out
        have d1 := blk2 hb5 c1
        have d2 := blk2 hb5 c2
        obtain ⟨m0, m1, m2, m3, mf⟩ := cells4 d2
        have d3 := c3.below (EMo.stays _ _) hb5
        have d4 := c4.trans (hb5.mono c4.size)
        have d5 := Nat.le_trans c5' hb5.size
        have hl5 := blk_lt d1
        have e1 := (heap_setCell_other w5 ⟨b, 3, none⟩ (w2.heap.size + 1) (.slice A5 x.1.wires.length c5) hne).trans d1
        have e3 := d3.setNe (a := ⟨b, 3, none⟩) (u := .slice A5 x.1.wires.length c5) hv2 (EMo.setT d2 (by decide))
        have e4 : Below w.heap.size w (w5.setCell ⟨b, 3, none⟩ (.slice A5 x.1.wires.length c5)) := d4.setCell (by simp; omega) _
        have e6 := (ho5.imp c5' fun _ _ h => h).setT (a := ⟨b, 3, none⟩) (u := .slice A5 x.1.wires.length c5) d2 (by decide) (fun _ _ h => h)
        have e7 := Boxed.cell e1
        have HE := Lib.hid (And.intro e1 (And.intro e3 (And.intro e4 e6)))
        have HB5 := Lib.hid hb5
        clear c1 c2 c3 c4 d1 d2 d3 d4 e1 e3 e4 e6 ho5 hb5
        have hpl : pre.length + 1 ≤ l.length := by have := hpre.length_le; simpa [backL_length] using this
        dsimp only
        gi_wp2_with (gi_at_builtin; refine wpIn_app (E := EMo 3 w4.heap.size) (W := w5.setCell ⟨b, 3, none⟩ (.slice A5 x.1.wires.length c5)) 27 4 w4.heap.size rfl _ _ 30 (.agg #[.int .i64 0, .int .i64 0, .bool false, .slice none 0 0]) 48 rfl Tryz.underlying30 (by kernel_rfl) rfl (by decide) (by decide) (.slice A8 (pre.map fun x => invM x.1).length c8) (pre.map fun x => invM x.1) (invM x.1) [.int .i64 x.1.rule, .int .i64 x.1.at_, .bool _, .slice A5 x.1.wires.length c5] (by show Value.slice A8 pre.length c8 = _; rw [List.length_map]) (by show Value.slice (some ⟨w5.heap.size, 0, none⟩) 1 1 = _; simp) rfl (by simp [Value.oneCell']) (by rw [HBK.out]; exact ⟨_, rfl, HE.out.2.2.2⟩) HE.out.2.1 (by simpa using d5) (by simp; omega) (fun w1 n cs hown hg x1 cs1 ⟨v, e, hv⟩ => ⟨v, e, hv.other hown hg (by decide)⟩) ?_; intro v1 w1 ho hg; obtain ⟨A7, c7, rfl, _⟩ := ho.form; have hN9 : w1.heap[w2.heap.size + 1]? = some (.cells #[.slice A8 (pre.map fun x => invM x.1).length c8] 30 (0, 0)) := (hg.block _ (by simp; omega) (fun e => by have := (app_cellsAt HE.out.2.1 e.symm).2; omega)).trans HE.out.1; have e9 := Boxed.cell hN9; have e10 := Boxed.frozen hN9; have HG := Lib.hid (And.intro ho (And.intro hg hN9)); clear ho hg hN9)
        obtain ⟨g1, g2, g3⟩ := HG.out
        obtain ⟨x1, x2, x3, x4⟩ := HE.out
        have hb5 := HB5.out
        have hz3 := HZ3.out
        have hs5 := hb5.size
        have hsg := g2.size
        simp only [World.size_setCell] at hs5 hsg
        have hwW := HI.out.2.2.1.size
        refine ⟨?_, ⟨?_, ?_⟩, _, Boxed.set _ g3, ?_, ?_, ?_⟩
        · exact ((KeepsOthers.setCell _ _ _).from _).trans ((keepsFrom_of (grown_of_below hb5 none) (fun j e => by cases e)).trans (((KeepsOthers.setCell _ _ _).from _).trans ((keepsFrom_of g2 (fun j e => by obtain ⟨⟨cs, hc⟩, _⟩ := app_cellsAt x2 e; exact ⟨cs, _, hc⟩)).trans ((KeepsOthers.setCell _ _ _).from _))))
        · exact (x2.grows g2 ((((Below.refl _ W).setCell (p := ⟨b, 2, none⟩) (by simp; omega) _).trans (hb5.mono (by simp; omega))).setCell (p := ⟨b, 3, none⟩) (by simp; omega) _) (by omega) (by simp; omega)).setCell (by simp; omega) _
        · rw [heap_setCell_other _ _ _ _ (by simp; omega)]
          refine (g2.block _ (by simp; omega) (fun e => by have := (app_cellsAt x2 e.symm).2; omega)).trans ?_
          rw [heap_setCell_other _ _ _ _ (by simp; omega)]
          refine (hb5.block _ (by simp; omega)).trans ?_
          rw [heap_setCell_other _ _ _ _ (by simp; omega)]
        · have := g1.setT (a := ⟨w2.heap.size + 1, 0, none⟩) (u := .slice A7 (pre.length + 1) c7) g3 (by decide) (EMo.setT g3 (by decide))
          rw [List.map_append]
          simpa using this
        · exact (x2.grows g2 x3 (by omega) (by have := x3.size; omega)).setCell (by simp; omega) _
        · simp; omega
    case done =>
      rintro D W hD ⟨v, h1, h2, h3, h4⟩ hm
      obtain ⟨A8, c8, rfl, _⟩ := h2.form
      have hc8 := Boxed.cell h1
      have HE := Lib.hid (And.intro h2 (And.intro h3 hm))
      clear h1 h2 h3 hm
      dsimp only
      gi_wp2
      obtain ⟨h2, h3, hm⟩ := HE.out
      refine leaves_marks (L := w4.heap.size) (I := fun W => App (EMo 3 w4.heap.size) 27 4 w4.heap.size W (.slice A8 ((backL l).map fun x => invM x.1).length c8) ((backL l).map fun x => invM x.1) ∧ Below w.heap.size w W) ?_ ?_ _ W ⟨⟨D, rfl, hm, by simp⟩, trivial⟩ (by simp at hD ⊢; omega) ⟨h2, h3⟩
      · rintro s X Y row ⟨k2, k3⟩ hg hr
        exact ⟨k2.turn (EMo.bears _ _ (by decide)) (by decide) hg (fun r e => (hr r e).2), abide_below (L := w4.heap.size) (by omega) (Nat.le_refl _) () X Y row k3 hg hr⟩
      · rintro w' ⟨k2, k3⟩
        refine ⟨_, results_list (rs := [.tmp 4, .tmp 5]) rfl (by simp) (.tmp (.tmp .nil)), .slice A8 ((backL l).map fun x => invM x.1).length c8, ?_, ?_, k3⟩
        · rw [HF.out, List.length_map]; rfl
        · rw [HF.out]
          exact k2.imp (by omega) fun x cs ⟨v, e1, e2⟩ => ⟨v, e1, e2.imp (by omega) fun _ _ h => h⟩
  · have hne : (er != 0) = true := by simpa using he
    have HF := Lib.hid (show InvertR c l = (er, []) by unfold InvertR; rw [hx, if_pos he])
    clear hx he
    dsimp only
    have hb9 : Below w.heap.size w (w2.alloc (.cells #[.int .i64 cc.wires, .int .i64 cc.bits, .slice A9 cc.gates.length c9] 24)) := below_alloc hb0 _
    gi_wp2
    exact ⟨_, results_list (rs := [.tmp 4, .tmp 5]) rfl (by simp) (.tmp (.tmp .nil)), .slice none 0 0, by rw [HF.out]; rfl, by rw [HF.out]; exact App.nil _ _ _ _ _, hb9⟩
end Go.Proofs.YtfommmijojfdbaaGreatDoor
