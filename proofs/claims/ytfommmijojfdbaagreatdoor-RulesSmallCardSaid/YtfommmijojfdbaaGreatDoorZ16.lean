/- Part 17 of the proof that 'spoondriftlaw19.RulesApplies' holds for every input; it has no condition beyond the statement's own. -/
import Derived.Test.YtfommmijojfdbaaGreatDoorZ14
import Derived.Test.YtfommmijojfdbaaGreatDoorZ04
import Derived.Test.YtfommmijojfdbaaGreatDoorZ15
set_option linter.all false
namespace Go.Proofs.YtfommmijojfdbaaGreatDoor
open Go.RowKit
theorem rG_any (k : Int) (A : Option Addr) (n c : Nat) (w : World) : Calls Tryz.prog 149 #[.int .i64 k, .slice A n c] w fun e w' => e = .returned (.agg #[.int .i64 k, .slice A n c, .int .i64 0, .int .i64 0]) ∧ Below w.heap.size w w' := by
  go_enter Tryz.func149, Tryz.ntmps149
  go_wp2
  exact bodyPost_ret (results_cell_row rfl _ _ w.heap.size 55 _ _ _ rfl (heap_alloc_new _ _) Tryz.underlying55 rfl (by kernel_rfl)) rfl ⟨rfl, by (repeat (first|exact bR _ _|assumption|apply bN|apply bA|apply bD))⟩
theorem rOf_any (v : Value) (w : World) : Calls Tryz.prog 150 #[v] w fun e w' => e = .returned v ∧ w = w' := by
  go_enter Tryz.func150, Tryz.ntmps150
  go_wp2
  go_ret
  exact ⟨rfl, rfl⟩
def RdF (n : Nat) (w : World) (A : Option Addr) (l : List G) : Prop := ∀ W' : World, (∀ k, n ≤ k → k < w.heap.size → W'.heap[k]? = w.heap[k]?) → RdG W' A l
theorem RdF.rd {n : Nat} {w : World} {A : Option Addr} {l : List G} (h : RdF n w A l) : RdG w A l := h w fun _ _ _ => rfl
theorem RdF.move {n n' : Nat} {w w' : World} {A : Option Addr} {l : List G} (h : RdF n w A l) (hn : n' ≤ n) (hs : w.heap.size ≤ w'.heap.size) (he : ∀ k, n ≤ k → k < w.heap.size → w'.heap[k]? = w.heap[k]?) : RdF n' w' A l :=
  fun W' hW => h W' fun k h1 h2 => (hW k (by omega) (by omega)).trans (he k h1 h2)
theorem RdF.below {n : Nat} {w w' : World} {A : Option Addr} {l : List G} (h : RdF n w A l) (hb : Below w.heap.size w w') : RdF n w' A l := h.move (Nat.le_refl _) hb.size fun k _ hk => hb.block k hk
theorem heap_set4 (w : World) (b : Nat) (u0 u1 u2 u3 : Value) : ∀ k, k ≠ b → ((((w.setCell ⟨b, 0, none⟩ u0).setCell ⟨b, 1, none⟩ u1).setCell ⟨b, 2, none⟩ u2).setCell ⟨b, 3, none⟩ u3).heap[k]? = w.heap[k]? := fun k hk => by
  rw [heap_setCell_other _ _ _ _ hk, heap_setCell_other _ _ _ _ hk, heap_setCell_other _ _ _ _ hk, heap_setCell_other _ _ _ _ hk]
theorem RdF.set4 {n n' b : Nat} {w : World} {A : Option Addr} {l : List G} (h : RdF n w A l) (hn : n' ≤ n) (hb : b < n) (u0 u1 u2 u3 : Value) : RdF n' ((((w.setCell ⟨b, 0, none⟩ u0).setCell ⟨b, 1, none⟩ u1).setCell ⟨b, 2, none⟩ u2).setCell ⟨b, 3, none⟩ u3) A l :=
  h.move hn (by simp) fun k hk _ => heap_set4 w b u0 u1 u2 u3 k (by omega)
theorem Own.rdF {n : Nat} {w : World} {A : Option Addr} {m c : Nat} {l : List G} (h : Own 3 55 n w (.slice A m c) l) (hl : l.length ≤ 35184372088832) (hg : ∀ g ∈ l, g.wires.length ≤ 35184372088832) : RdF n w A l ∧ l.length ≤ c := by
  refine ⟨fun W' hW => ?_, ?_⟩
  · obtain ⟨_, _, hx, _, hr⟩ := (h.h.kept (w1 := W') hW).rd hl hg
    cases hx
    exact hr
  · obtain ⟨_, _, hx, hc, _⟩ := h.rd hl hg
    cases hx
    exact hc
def kG (k : Int) : G := ⟨k, [0], 0, 0⟩
set_option maxRecDepth 100000 in
set_option maxHeartbeats 4000000 in
theorem rOne_any (A B : Option Addr) (c d : Nat) (xs ys : List Int) (ph : Int) (w : World) (h : RdI w A xs) (h' : RdI w B ys) (hx : xs.length ≤ 100) (hy : ys.length ≤ 100) :
    Calls Tryz.prog 151 #[.slice A xs.length c, .slice B ys.length d, .int .i64 ph] w fun e w' => ∃ A1 c1 A2 c2, e = .returned (.agg #[.int .i64 1, .slice A1 xs.length c1, .slice A2 ys.length c2, .int .i64 ph]) ∧
      RdF (w.heap.size + 1) w' A1 (xs.map kG) ∧ RdF (w.heap.size + 1) w' A2 (ys.map kG) ∧ xs.length ≤ c1 ∧ ys.length ≤ c2 ∧ Below w.heap.size w w' := by
  have HH := Lib.hid (And.intro h h')
  clear h h'
  go_enter Tryz.func151, Tryz.ntmps151
  go_wp2
  obtain ⟨W1, hW1⟩ : ∃ W1, (w.alloc (.cells #[.int .i64 0, .slice none 0 0, .slice none 0 0, .int .i64 0] 107)).alloc (.cells #[.int .i64 1, .slice none 0 0, .slice none 0 0, .int .i64 ph] 107) = W1 := ⟨_, rfl⟩
  have hb1 : Below w.heap.size w W1 := by rw [← hW1]; (repeat (first|exact bR _ _|assumption|apply bN|apply bA|apply bD))
  have hz1 : W1.heap.size = w.heap.size + 2 := by rw [← hW1]; simp
  have p0 : W1.heap[w.heap.size]? = some (.cells #[.int .i64 0, .slice none 0 0, .slice none 0 0, .int .i64 0] 107 (0, 0)) := by rw [← hW1]; exact alloc_old (blk_alloc _ _ _ rfl)
  have p1 : W1.heap[w.heap.size + 1]? = some (.cells #[.int .i64 1, .slice none 0 0, .slice none 0 0, .int .i64 ph] 107 (0, 0)) := by rw [← hW1]; exact blk_alloc _ _ _ (by simp)
  rw [hW1]
  clear hW1
  have HS := Lib.hid (show ∃ AL cL, 0 ≤ cL ∧ W1.heap[w.heap.size]? = some (.cells #[.int .i64 0, .slice none 0 0, .slice none 0 0, .int .i64 0] 107 (0, 0)) ∧ W1.heap[w.heap.size + 1]? = some (.cells #[.int .i64 1, .slice AL 0 cL, .slice none 0 0, .int .i64 ph] 107 (0, 0)) ∧ Own 3 55 (w.heap.size + 2) W1 (.slice AL 0 cL) ((xs.take 0).map kG) ∧ Below w.heap.size w W1 ∧ w.heap.size + 2 ≤ W1.heap.size from ⟨none, 0, Nat.le_refl _, p0, p1, own_nil _ _ _ _, hb1, by omega⟩)
  clear p0 p1 hb1 hz1
  go_loopw [9, 16] (fun _ i wr => ∃ j : Nat, j ≤ xs.length ∧ i = .int .i64 j ∧ Hid (∃ AL cL, j ≤ cL ∧ wr.heap[w.heap.size]? = some (.cells #[.int .i64 0, .slice none 0 0, .slice none 0 0, .int .i64 0] 107 (0, 0)) ∧ wr.heap[w.heap.size + 1]? = some (.cells #[.int .i64 1, .slice AL j cL, .slice none 0 0, .int .i64 ph] 107 (0, 0)) ∧ Own 3 55 (w.heap.size + 2) wr (.slice AL j cL) ((xs.take j).map kG) ∧ Below w.heap.size w wr ∧ w.heap.size + 2 ≤ wr.heap.size)) (fun _ i _ => xs.length - (intOf i).toNat)
  case atStart => exact ⟨0, Nat.zero_le _, rfl, HS⟩
  case round =>
    clear HS
    obtain ⟨j, hj, rfl, HI⟩ := hrel
    obtain ⟨AL, cL, hcL, e0, e1, e2, e3, e4⟩ := HI.out
    have HI2 := Lib.hid (And.intro e0 (And.intro e1 (And.intro e2 (And.intro e3 e4))))
    by_cases hlt : j < xs.length
    · obtain ⟨b, o, rfl, hx0⟩ := (HH.out.1.bI e3).int j hlt
      obtain ⟨y, hy⟩ : ∃ y, xs[j] = y := ⟨_, rfl⟩
      have HY := Lib.hid hy
      rw [hy] at hx0
      obtain ⟨r0, r1, r2, r3, rf⟩ := cells4 e1
      have hbl := blk_lt e1
      have hold := olds wr
      have hlx := cell_lt hx0
      clear hy e0 e1 e2 e3 HI
      go_wp2
      refine wp_region_sg (by kernel_rfl) [0, 1, 2, 3, 4, 5, 6, 7, 8] (by kernel_rfl) (by kernel_rfl) (by kernel_rfl) ?_
      refine SG.p (v := ?v1_5_0) rfl rfl rfl (fun W => ?h1_5_0) ?r1_5_0
      case h1_5_0 => (first|(go_simp;done)|(go_simp;with_reducible rfl))
      simp only [Act.put, pA, pB, pC]
      refine SG.l (v := ?v1_5_1) rfl rfl rfl ?h1_5_1 ?r1_5_1
      case h1_5_1 => (first|(go_simp;done)|(go_simp;with_reducible rfl))
      simp only [Act.put, pA, pB, pC]
      refine SG.p (v := ?v1_5_2) rfl rfl rfl (fun W => ?h1_5_2) ?r1_5_2
      case h1_5_2 => (first|(go_simp;done)|(go_simp;with_reducible rfl))
      simp only [Act.put, pA, pB, pC]
      refine SG.v (v := ?v1_5_3) (w' := ?w1_5_3) rfl rfl rfl ?h1_5_3 ?s1_5_3 ?r1_5_3
      case h1_5_3 => (first|(go_simp;done)|(go_simp;with_reducible rfl)|(go_simp;constructor<;>with_reducible rfl))
      case s1_5_3 => exact ⟨(fun _ => ⟨_, drop_at rfl, by (first|(go_simp;done)|(go_simp;with_reducible rfl))⟩), trivial⟩
      simp only [Act.put, pA, pB, pC]
      refine SG.c rfl rfl rfl (by first|(go_simp;done)|(go_simp;with_reducible rfl)|(go_simp;exact ⟨⟨rfl, rfl⟩, rfl⟩)) ?_
      refine (rG_any y _ _ _ _).mono ?_
      rintro e w2 ⟨rfl, hb2⟩
      have hbr : Below wr.heap.size wr w2 := Below.trans (b := wr.drew.alloc (.cells #[.int .i64 0] 3)) (by (repeat (first|exact bR _ _|assumption|apply bN|apply bA|apply bD))) (hb2.mono (by simp))
      have q1 := blk2 hbr HI2.out.2.1
      replace r0 := kc hbr r0
      replace r1 := kc hbr r1
      replace r2 := kc hbr r2
      replace r3 := kc hbr r3
      have hin : App EI 3 1 wr.heap.size w2 (.slice (some ⟨wr.heap.size, 0, none⟩) 1 1) [0] := (App.lit (w := wr.drew) (xs := [0]) (cs := [.int .i64 0]) (Nat.le_refl _) (by simp) (by have := Reps.nil (EI (wr.drew.alloc (.cells #[Value.int .i64 0] 3))) 1; exact (Reps.snoc this (c := [.int .i64 0]) (p := 0) rfl rfl))).below EI.stays hb2
      obtain ⟨ps, hps, hd, ho⟩ := HI2.out.2.2.1
      obtain rfl : ps.length = j := by have := congrArg List.length hps; simp at this; omega
      have HIN := Lib.hid (And.intro hin (And.intro (ho.below (EGv.stays _ _) hbr) (And.intro q1 (And.intro hbr (And.intro hps (hd.new (g := kG y) ho hin (Nat.le_refl _)))))))
      have hsz2 := hbr.size
      clear hb2 hbr q1 hin hps hd ho
      refine ⟨_, rfl, ?_, ?_⟩
      · exact ⟨(fun _ => ⟨_, drop_at rfl, by (first|(go_simp;done)|(go_simp;with_reducible rfl))⟩), trivial⟩
      simp only [Act.put, pA, pB, pC]
      refine SG.v (v := ?v1_5_5) (w' := ?w1_5_5) rfl rfl rfl ?h1_5_5 ?s1_5_5 ?r1_5_5
      case h1_5_5 => (first|(go_simp;done)|(go_simp;with_reducible rfl)|(go_simp;constructor<;>with_reducible rfl))
      case s1_5_5 => exact ⟨(fun _ => ⟨_, drop_at rfl, by (first|(go_simp;done)|(go_simp;with_reducible rfl))⟩), trivial⟩
      simp only [Act.put, pA, pB, pC]
      refine SG.app (E := EGv 3 (w.heap.size + 2)) 55 4 (w.heap.size + 2) rfl rfl _ _ 22 (.agg #[.int .i64 0, .slice none 0 0, .int .i64 0, .int .i64 0]) 48 rfl Tryz.underlying22 (by kernel_rfl) rfl (by decide) (by decide) (.slice AL ps.length cL) ps (kG y, .slice (some ⟨wr.heap.size, 0, none⟩) 1 1) [.int .i64 y, .slice (some ⟨wr.heap.size, 0, none⟩) 1 1, .int .i64 0, .int .i64 0] rfl rfl rfl (by simp [Value.oneCell']) ⟨rfl, HIN.out.1.imp e4 (fun _ _ h => h)⟩ HIN.out.2.1 (by omega) (by omega) (fun _ _ _ h1 h2 _ _ h => h.other h1 h2 (by decide)) ?_
      intro v1 w1 ho1 hg1
      obtain ⟨A5, c5, hv1, hc5⟩ := ho1.form
      rw [List.length_append, List.length_singleton] at hv1 hc5
      subst hv1
      have hne : ∀ k, k < w.heap.size + 2 → some k ≠ (Value.slice AL ps.length cL).ownBlock := fun k hk e => by
        rcases HIN.out.2.1.block with h | ⟨k', h, h', _⟩
        · rw [h] at e; cases e
        · rw [h] at e; cases e; omega
      have q1 := (hg1.block (w.heap.size + 1) (by omega) (hne _ (by omega))).trans HIN.out.2.2.1
      obtain ⟨r0, r1, r2, r3, rf⟩ := cells4 q1
      have HG := Lib.hid (And.intro ho1 (And.intro hg1 (And.intro q1 ((hg1.block w.heap.size (by omega) (hne _ (by omega))).trans (blk2 HIN.out.2.2.2.1 HI2.out.1)))))
      clear ho1 hg1 q1 hne
      refine ⟨?_, ?_⟩
      · exact ⟨(nw (by kernel_rfl)), trivial⟩
      simp only [Act.put, pA, pB, pC]
      refine SG.p (v := ?v1_5_7) rfl rfl rfl (fun W => ?h1_5_7) ?r1_5_7
      case h1_5_7 => (first|(go_simp;done)|(go_simp;with_reducible rfl))
      simp only [Act.put, pA, pB, pC]
      refine SG.k (w' := ?w1_5_8) rfl rfl rfl ?h1_5_8 ?s1_5_8 ?r1_5_8
      case h1_5_8 => (first|(go_simp;done)|(go_simp;with_reducible rfl))
      case s1_5_8 => exact ⟨(nw (by kernel_rfl)), trivial⟩
      simp only [Act.put, pA, pB, pC]
      simp only [SG]
      go_wp2
      go_roundw
      case rel =>
        refine ⟨ps.length + 1, by omega, by go_num, Lib.hid ⟨A5, c5, hc5, ?_, ?_, ?_, ?_, ?_⟩⟩
        · rw [heap_setCell_other _ _ _ _ (by simp)]; exact HG.out.2.2.2
        · exact heap_setCell_same _ _ 1 _ _ _ HG.out.2.2.1
        · refine ⟨_, ?_, HIN.out.2.2.2.2.2, ?_⟩
          · rw [List.map_append, HIN.out.2.2.2.2.1, List.take_succ_eq_append_getElem hlt, List.map_append, HY.out]; rfl
          · have := HG.out.1.setBox (a := ⟨w.heap.size + 1, 1, none⟩) (by simp) (by simp) (.slice A5 (ps.length + 1) c5)
            simpa using this
        · exact (HIN.out.2.1.grows HG.out.2.1 (HI2.out.2.2.2.1.trans (HIN.out.2.2.2.1.mono HI2.out.2.2.2.1.size)) (by omega) (by omega)).setCell (by simp) _
        · have := HG.out.2.1.size; simp; omega
      case measure => simp [intOf]; omega
    · obtain rfl : j = xs.length := by omega
      have e2' := e2
      rw [List.take_of_length_le (Nat.le_refl _)] at e2'
      have HO := Lib.hid (show ∃ AR cR, 0 ≤ cR ∧ wr.heap[w.heap.size]? = some (.cells #[.int .i64 0, .slice none 0 0, .slice none 0 0, .int .i64 0] 107 (0, 0)) ∧ wr.heap[w.heap.size + 1]? = some (.cells #[.int .i64 1, .slice AL xs.length cL, .slice AR 0 cR, .int .i64 ph] 107 (0, 0)) ∧ OwnH 3 55 (w.heap.size + 2) wr.heap.size wr (.slice AL xs.length cL) (xs.map kG) ∧ Own 3 55 wr.heap.size wr (.slice AR 0 cR) ((ys.take 0).map kG) ∧ Below w.heap.size w wr ∧ wr.heap.size ≤ wr.heap.size from ⟨none, 0, Nat.le_refl _, e0, e1, e2'.h, own_nil _ _ _ _, e3, Nat.le_refl _⟩)
      clear e0 e1 e2 e2' e3 HI HI2 hlt hj
      obtain ⟨n2, hn2⟩ : ∃ n, wr.heap.size = n := ⟨_, rfl⟩
      rw [hn2] at e4
      have HO2 := Lib.hid (show ∃ AR cR, 0 ≤ cR ∧ wr.heap[w.heap.size]? = some (.cells #[.int .i64 0, .slice none 0 0, .slice none 0 0, .int .i64 0] 107 (0, 0)) ∧ wr.heap[w.heap.size + 1]? = some (.cells #[.int .i64 1, .slice AL xs.length cL, .slice AR 0 cR, .int .i64 ph] 107 (0, 0)) ∧ OwnH 3 55 (w.heap.size + 2) n2 wr (.slice AL xs.length cL) (xs.map kG) ∧ Own 3 55 n2 wr (.slice AR 0 cR) ((ys.take 0).map kG) ∧ Below w.heap.size w wr ∧ n2 ≤ wr.heap.size by rw [← hn2]; exact HO.out)
      clear HO hn2
      rename World => wo
      go_wp2
      go_loopw [11, 31] (fun _ i wr => ∃ j : Nat, j ≤ ys.length ∧ i = .int .i64 j ∧ Hid (∃ AR cR, j ≤ cR ∧ wr.heap[w.heap.size]? = some (.cells #[.int .i64 0, .slice none 0 0, .slice none 0 0, .int .i64 0] 107 (0, 0)) ∧ wr.heap[w.heap.size + 1]? = some (.cells #[.int .i64 1, .slice AL xs.length cL, .slice AR j cR, .int .i64 ph] 107 (0, 0)) ∧ OwnH 3 55 (w.heap.size + 2) n2 wr (.slice AL xs.length cL) (xs.map kG) ∧ Own 3 55 n2 wr (.slice AR j cR) ((ys.take j).map kG) ∧ Below w.heap.size w wr ∧ n2 ≤ wr.heap.size)) (fun _ i _ => ys.length - (intOf i).toNat)
      case atStart => exact ⟨0, Nat.zero_le _, rfl, HO2⟩
      case round =>
        clear HO2
        obtain ⟨j, hj, rfl, HI⟩ := hrel
        obtain ⟨AR, cR, hcR, e0, e1, eL, e2, e3, e5⟩ := HI.out
        have HI2 := Lib.hid (And.intro e0 (And.intro e1 (And.intro e2 (And.intro e3 eL))))
        by_cases hlt : j < ys.length
        · obtain ⟨b, o, rfl, hx0⟩ := (HH.out.2.bI e3).int j hlt
          obtain ⟨y, hy⟩ : ∃ y, ys[j] = y := ⟨_, rfl⟩
          have HY := Lib.hid hy
          rw [hy] at hx0
          obtain ⟨r0, r1, r2, r3, rf⟩ := cells4 e1
          have hbl := blk_lt e1
          have hold := olds wr
          have hlx := cell_lt hx0
          clear hy e0 e1 e2 e3 eL HI
          go_wp2
          refine wp_region_sg (by kernel_rfl) [0, 1, 2, 3, 4, 5, 6, 7, 8] (by kernel_rfl) (by kernel_rfl) (by kernel_rfl) ?_
          refine SG.p (v := ?v2_10_0) rfl rfl rfl (fun W => ?h2_10_0) ?r2_10_0
          case h2_10_0 => (first|(go_simp;done)|(go_simp;with_reducible rfl))
          simp only [Act.put, pA, pB, pC]
          refine SG.l (v := ?v2_10_1) rfl rfl rfl ?h2_10_1 ?r2_10_1
          case h2_10_1 => (first|(go_simp;done)|(go_simp;with_reducible rfl))
          simp only [Act.put, pA, pB, pC]
          refine SG.p (v := ?v2_10_2) rfl rfl rfl (fun W => ?h2_10_2) ?r2_10_2
          case h2_10_2 => (first|(go_simp;done)|(go_simp;with_reducible rfl))
          simp only [Act.put, pA, pB, pC]
          refine SG.v (v := ?v2_10_3) (w' := ?w2_10_3) rfl rfl rfl ?h2_10_3 ?s2_10_3 ?r2_10_3
          case h2_10_3 => (first|(go_simp;done)|(go_simp;with_reducible rfl)|(go_simp;constructor<;>with_reducible rfl))
          case s2_10_3 => exact ⟨(fun _ => ⟨_, drop_at rfl, by (first|(go_simp;done)|(go_simp;with_reducible rfl))⟩), trivial⟩
          simp only [Act.put, pA, pB, pC]
          refine SG.c rfl rfl rfl (by first|(go_simp;done)|(go_simp;with_reducible rfl)|(go_simp;exact ⟨⟨rfl, rfl⟩, rfl⟩)) ?_
          refine (rG_any y _ _ _ _).mono ?_
          rintro e w2 ⟨rfl, hb2⟩
          have hbr : Below wr.heap.size wr w2 := Below.trans (b := wr.drew.alloc (.cells #[.int .i64 0] 3)) (by (repeat (first|exact bR _ _|assumption|apply bN|apply bA|apply bD))) (hb2.mono (by simp))
          have q1 := blk2 hbr HI2.out.2.1
          replace r0 := kc hbr r0
          replace r1 := kc hbr r1
          replace r2 := kc hbr r2
          replace r3 := kc hbr r3
          have hin : App EI 3 1 wr.heap.size w2 (.slice (some ⟨wr.heap.size, 0, none⟩) 1 1) [0] := (App.lit (w := wr.drew) (xs := [0]) (cs := [.int .i64 0]) (Nat.le_refl _) (by simp) (by have := Reps.nil (EI (wr.drew.alloc (.cells #[Value.int .i64 0] 3))) 1; exact (Reps.snoc this (c := [.int .i64 0]) (p := 0) rfl rfl))).below EI.stays hb2
          obtain ⟨ps, hps, hd, ho⟩ := HI2.out.2.2.1
          obtain rfl : ps.length = j := by have := congrArg List.length hps; simp at this; omega
          have HIN := Lib.hid (And.intro hin (And.intro (ho.below (EGv.stays _ _) hbr) (And.intro q1 (And.intro hbr (And.intro hps (hd.new (g := kG y) ho hin (Nat.le_refl _)))))))
          have hsz2 := hbr.size
          clear hb2 hbr q1 hin hps hd ho
          refine ⟨_, rfl, ?_, ?_⟩
          · exact ⟨(fun _ => ⟨_, drop_at rfl, by (first|(go_simp;done)|(go_simp;with_reducible rfl))⟩), trivial⟩
          simp only [Act.put, pA, pB, pC]
          refine SG.v (v := ?v2_10_5) (w' := ?w2_10_5) rfl rfl rfl ?h2_10_5 ?s2_10_5 ?r2_10_5
          case h2_10_5 => (first|(go_simp;done)|(go_simp;with_reducible rfl)|(go_simp;constructor<;>with_reducible rfl))
          case s2_10_5 => exact ⟨(fun _ => ⟨_, drop_at rfl, by (first|(go_simp;done)|(go_simp;with_reducible rfl))⟩), trivial⟩
          simp only [Act.put, pA, pB, pC]
          refine SG.app (E := EGv 3 n2) 55 4 n2 rfl rfl _ _ 22 (.agg #[.int .i64 0, .slice none 0 0, .int .i64 0, .int .i64 0]) 48 rfl Tryz.underlying22 (by kernel_rfl) rfl (by decide) (by decide) (.slice AR ps.length cR) ps (kG y, .slice (some ⟨wr.heap.size, 0, none⟩) 1 1) [.int .i64 y, .slice (some ⟨wr.heap.size, 0, none⟩) 1 1, .int .i64 0, .int .i64 0] rfl rfl rfl (by simp [Value.oneCell']) ⟨rfl, HIN.out.1.imp e5 (fun _ _ h => h)⟩ HIN.out.2.1 (by omega) (by omega) (fun _ _ _ h1 h2 _ _ h => h.other h1 h2 (by decide)) ?_
          intro v1 w1 ho1 hg1
          obtain ⟨A5, c5, hv1, hc5⟩ := ho1.form
          rw [List.length_append, List.length_singleton] at hv1 hc5
          subst hv1
          have hne : ∀ k, k < n2 → some k ≠ (Value.slice AR ps.length cR).ownBlock := fun k hk e => by
            rcases HIN.out.2.1.block with h | ⟨k', h, h', _⟩
            · rw [h] at e; cases e
            · rw [h] at e; cases e; omega
          have q1 := (hg1.block (w.heap.size + 1) (by omega) (hne _ (by omega))).trans HIN.out.2.2.1
          obtain ⟨r0, r1, r2, r3, rf⟩ := cells4 q1
          have HG := Lib.hid (And.intro ho1 (And.intro hg1 (And.intro q1 (And.intro ((hg1.block w.heap.size (by omega) (hne _ (by omega))).trans (blk2 HIN.out.2.2.2.1 HI2.out.1)) (HI2.out.2.2.2.2.kept (w1 := w1) fun k _ hk => (hg1.block k (by omega) (hne _ hk)).trans (HIN.out.2.2.2.1.block k (by omega)))))))
          clear ho1 hg1 q1 hne
          refine ⟨?_, ?_⟩
          · exact ⟨(nw (by kernel_rfl)), trivial⟩
          simp only [Act.put, pA, pB, pC]
          refine SG.p (v := ?v2_10_7) rfl rfl rfl (fun W => ?h2_10_7) ?r2_10_7
          case h2_10_7 => (first|(go_simp;done)|(go_simp;with_reducible rfl))
          simp only [Act.put, pA, pB, pC]
          refine SG.k (w' := ?w2_10_8) rfl rfl rfl ?h2_10_8 ?s2_10_8 ?r2_10_8
          case h2_10_8 => (first|(go_simp;done)|(go_simp;with_reducible rfl))
          case s2_10_8 => exact ⟨(nw (by kernel_rfl)), trivial⟩
          simp only [Act.put, pA, pB, pC]
          simp only [SG]
          go_wp2
          go_roundw
          case rel =>
            refine ⟨ps.length + 1, by omega, by go_num, Lib.hid ⟨A5, c5, hc5, ?_, ?_, ?_, ?_, ?_, ?_⟩⟩
            · rw [heap_setCell_other _ _ _ _ (by simp)]; exact HG.out.2.2.2.1
            · exact heap_setCell_same _ _ 2 _ _ _ HG.out.2.2.1
            · exact HG.out.2.2.2.2.kept fun k hk _ => heap_setCell_other _ _ _ _ (by show k ≠ w.heap.size + 1; omega)
            · refine ⟨_, ?_, HIN.out.2.2.2.2.2, ?_⟩
              · rw [List.map_append, HIN.out.2.2.2.2.1, List.take_succ_eq_append_getElem hlt, List.map_append, HY.out]; rfl
              · have := HG.out.1.setBox (a := ⟨w.heap.size + 1, 2, none⟩) (by show w.heap.size + 1 < n2; omega) (by show w.heap.size + 1 < n2; omega) (.slice A5 (ps.length + 1) c5)
                simpa using this
            · exact (HIN.out.2.1.grows HG.out.2.1 (HI2.out.2.2.2.1.trans (HIN.out.2.2.2.1.mono HI2.out.2.2.2.1.size)) (by omega) (by omega)).setCell (by simp) _
            · have := HG.out.2.1.size; simp; omega
          case measure => simp [intOf]; omega
        · obtain rfl : j = ys.length := by omega
          obtain ⟨r0, r1, r2, r3, rf⟩ := cells4 e1
          have hbl := blk_lt e1
          have f0 := (cells4 e0).2.2.2.2
          have s0 := (cells4 e0).1
          have s1 := (cells4 e0).2.1
          have s2 := (cells4 e0).2.2.1
          have s3 := (cells4 e0).2.2.2.1
          rw [List.take_of_length_le (Nat.le_refl _)] at e2
          have HF := Lib.hid (And.intro e0 (And.intro eL (And.intro e2 e3)))
          clear e0 e1 eL e2 e3 HI HI2
          go_wp2
          refine bodyPost_ret (results_cell_row rfl _ _ w.heap.size 107 _ _ _ rfl (set4 HF.out.1) Tryz.underlying107 rfl (by kernel_rfl)) rfl ?_
          obtain ⟨z1, y1⟩ := HF.out.2.1.own.rdF (by simp; omega) (fun g hg => by obtain ⟨k, _, rfl⟩ := List.mem_map.1 hg; simp [kG])
          obtain ⟨z2, y2⟩ := HF.out.2.2.1.rdF (by simp; omega) (fun g hg => by obtain ⟨k, _, rfl⟩ := List.mem_map.1 hg; simp [kG])
          exact ⟨AL, cL, AR, cR, rfl, z1.set4 (by omega) (by omega) _ _ _ _, z2.set4 (by omega) (by omega) _ _ _ _, by simpa using y1, by simpa using y2, (((HF.out.2.2.2.setCell (Nat.le_refl _) _).setCell (Nat.le_refl _) _).setCell (Nat.le_refl _) _).setCell (Nat.le_refl _) _⟩
def raxis (g : G) (x : Int) : Int := axN g.kind (decide (g.wires.getLast? = some x))
def ralike (g h : G) : Bool := decide (g.wires.getD 0 0 ∈ h.wires) && decide (g.wires.getD 1 0 ∈ h.wires)
def rswaps (g h : G) : Bool := decide ((g.kind = 11 ∧ (h.kind = 10 ∨ h.kind = 11)) ∨ (h.kind = 11 ∧ g.kind = 10))
def rbad (g h : G) (x : Int) : Bool := decide (x ∈ h.wires) && (decide (raxis g x = 0) || decide (raxis g x ≠ raxis h x))
def rcomm (g h : G) : Bool := if meets g.wires h.wires = false then true else if rswaps g h = true then ralike g h else !(g.wires.any (rbad g h))
theorem idx_at {l : List Int} (hn : l.Nodup) (x : Int) : ∀ k : Int, x ∈ l → ∃ j : Nat, ∃ hj : j < l.length, idx l x k = k + j ∧ l[j] = x := by
  induction l with
  | nil => intro k h; cases h
  | cons y l ih =>
    intro k h
    unfold idx
    by_cases e : x = y
    · subst e
      exact ⟨0, by simp, by simp, rfl⟩
    · rw [if_neg e]
      obtain ⟨j, hj, h1, h2⟩ := ih (List.nodup_cons.1 hn).2 (k + 1) (by simpa [e] using h)
      exact ⟨j + 1, by simpa using hj, by rw [h1]; push_cast; omega, by simpa using h2⟩
theorem last_iff {l : List Int} (hn : l.Nodup) {j : Nat} (hj : j < l.length) : (l.getLast? = some l[j]) ↔ (j : Int) = (l.length : Int) - 1 := by
  rw [List.getLast?_eq_getElem?, List.getElem?_eq_getElem (show l.length - 1 < l.length by omega)]
  constructor
  · intro h
    injection h with h
    have H := List.pairwise_iff_getElem.1 hn
    rcases Nat.lt_or_ge j (l.length - 1) with hlt | hge
    · exact absurd h.symm (H j (l.length - 1) hj (by omega) hlt)
    · omega
  · intro h
    have : l.length - 1 = j := by omega
    simp [this]
theorem raxis_at {g : G} (hn : g.wires.Nodup) {j : Nat} (hj : j < g.wires.length) : raxis g g.wires[j] = axG g j := by
  unfold raxis axG
  congr 1
  rw [decide_eq_decide]
  exact last_iff hn hj
theorem badX_eq {g h : G} (hg : g.wires.Nodup) (hh : h.wires.Nodup) {j : Nat} (hj : j < g.wires.length) : badX g h g.wires[j] j = rbad g h g.wires[j] := by
  unfold badX rbad
  by_cases hm : g.wires[j] ∈ h.wires
  · obtain ⟨i, hi, h1, h2⟩ := idx_at hh g.wires[j] 0 hm
    rw [Int.zero_add] at h1
    rw [h1, ← raxis_at hg hj, ← raxis_at hh hi, h2]
    have : (0 : Int) ≤ (i : Int) := by omega
    rw [decide_eq_true this, decide_eq_true hm]
    simp only [Bool.true_and]
    rw [Bool.eq_iff_iff]
    simp
  · have : ¬ 0 ≤ idx h.wires g.wires[j] 0 := by rw [idx_nonneg _ _ 0 (by omega)]; exact hm
    rw [decide_eq_false this, decide_eq_false hm]
    rfl
theorem commL_drop {g h : G} (hg : g.wires.Nodup) (hh : h.wires.Nodup) : ∀ n j : Nat, g.wires.length ≤ j + n → commL g h (g.wires.drop j) j = !((g.wires.drop j).any (rbad g h)) := by
  intro n
  induction n with
  | zero => intro j hj; rw [List.drop_eq_nil_of_le (by omega)]; rfl
  | succ n ih =>
    intro j hj
    rcases Nat.lt_or_ge j g.wires.length with hlt | hge
    · rw [drop_cons _ j hlt]
      unfold commL
      rw [badX_eq hg hh hlt, List.any_cons]
      have := ih (j + 1) (by omega)
      push_cast at this
      rw [this]
      cases rbad g h g.wires[j] <;> simp
    · rw [List.drop_eq_nil_of_le hge]; rfl
theorem commL_eq {g h : G} (hg : g.wires.Nodup) (hh : h.wires.Nodup) : commL g h g.wires 0 = !(g.wires.any (rbad g h)) := by
  have := commL_drop (h := h) hg hh g.wires.length 0 (by omega)
  simpa using this
theorem len2 {l : List Int} (h : l.length = 2) : ∃ a b, l = [a, b] := by
  match l, h with
  | [a, b], _ => exact ⟨a, b, rfl⟩
theorem sameW2 {a b c d : Int} (ha : 0 ≤ a ∧ a < 12) (hb : 0 ≤ b ∧ b < 12) (hc : 0 ≤ c ∧ c < 12) (hd : 0 ≤ d ∧ d < 12) (h1 : a ≠ b) (h2 : c ≠ d) :
    ((List.range 12).all fun i => inW [a, b] i == inW [c, d] i) = (decide ([a, b].getD 0 0 ∈ [c, d]) && decide ([a, b].getD 1 0 ∈ [c, d])) := by
  rw [Bool.eq_iff_iff]
  simp only [List.all_eq_true, List.mem_range, Bool.and_eq_true, decide_eq_true_eq, beq_iff_eq, inW, List.getD_cons_zero, List.getD_cons_succ, List.mem_cons, List.not_mem_nil, or_false, decide_eq_decide]
  constructor
  · intro hx
    have h3 := hx a.toNat (by omega)
    have h4 := hx b.toNat (by omega)
    omega
  · intro hx i hi
    omega
theorem comm_eq {w : Int} (hw : w ≤ 12) {g h : G} (hg : goodG w g) (hh : goodG w h) : commB g h = rcomm g h := by
  obtain ⟨g1, g2, g3, g4, g5, g6, g7⟩ := hg
  obtain ⟨h1, h2, h3, h4, h5, h6, h7⟩ := hh
  unfold commB rcomm
  by_cases hm : meets g.wires h.wires = false
  · rw [if_pos hm, if_pos hm]
  rw [if_neg hm, if_neg hm, commL_eq g5 h5]
  have hsw : (swapsB g h || swapsB h g) = rswaps g h := by
    unfold swapsB rswaps
    rw [Bool.eq_iff_iff]
    simp only [Bool.or_eq_true, decide_eq_true_eq]
    omega
  rw [hsw]
  by_cases hr : rswaps g h = true
  · rw [hr]
    simp only [Bool.true_and, ↓reduceIte]
    have hk : (g.kind = 10 ∨ g.kind = 11) ∧ (h.kind = 10 ∨ h.kind = 11) ∧ (g.kind = 11 ∨ h.kind = 11) := by
      unfold rswaps at hr
      rw [decide_eq_true_eq] at hr
      omega
    have hgl : g.wires.length = 2 := by
      have : arity g.kind = 2 := by unfold arity; rcases hk.1 with e | e <;> rw [e] <;> decide
      omega
    have hhl : h.wires.length = 2 := by
      have : arity h.kind = 2 := by unfold arity; rcases hk.2.1 with e | e <;> rw [e] <;> decide
      omega
    obtain ⟨a, b, hab⟩ := len2 hgl
    obtain ⟨c, d, hcd⟩ := len2 hhl
    have hs : sameW g.wires h.wires = ralike g h := by
      unfold sameW ralike
      rw [hab] at g4 g5 ⊢
      rw [hcd] at h4 h5 ⊢
      have ha := g4 a (by simp)
      have hb := g4 b (by simp)
      have hc := h4 c (by simp)
      have hd := h4 d (by simp)
      have hne : a ≠ b := by simpa using g5
      have hne' : c ≠ d := by simpa using h5
      exact sameW2 (by omega) (by omega) (by omega) (by omega) hne hne'
    rw [hs]
    cases hal : ralike g h
    · simp only [Bool.false_eq_true, ↓reduceIte, Bool.not_eq_eq_eq_not, Bool.not_false]
      rw [Bool.not_eq_false] at hm
      unfold meets at hm
      rw [List.any_eq_true] at hm ⊢
      obtain ⟨x, hx, hxh⟩ := hm
      refine ⟨x, hx, ?_⟩
      unfold rbad
      rw [hxh]
      have e11 : ∀ b, axN 11 b = 0 := fun b => by cases b <;> rfl
      have e10 : ∀ b, axN 10 b = 3 := fun b => by cases b <;> rfl
      unfold raxis
      rcases hk with ⟨k1 | k1, k2 | k2, k3⟩
      all_goals rw [k1, k2]
      all_goals simp [e11, e10]
      all_goals omega
    · simp
  · rw [if_neg (by simpa using fun e => absurd e hr), if_neg hr]
end Go.Proofs.YtfommmijojfdbaaGreatDoor
