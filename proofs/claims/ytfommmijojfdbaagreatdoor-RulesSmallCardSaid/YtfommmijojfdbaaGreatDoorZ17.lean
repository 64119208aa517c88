/- Part 18 of the proof that 'spoondriftlaw19.RulesApplies' holds for every input; it has no condition beyond the statement's own. -/
import Derived.Test.YtfommmijojfdbaaGreatDoorZ15
import Derived.Test.YtfommmijojfdbaaGreatDoorZ14
import Derived.Test.YtfommmijojfdbaaGreatDoorZ01
import Derived.IntWalk
import Derived.Laws.IdiomCopy
set_option linter.all false
namespace Go.Proofs.YtfommmijojfdbaaGreatDoor
open Go.RowKit
set_option maxRecDepth 1000000 in
set_option maxHeartbeats 8000000 in
theorem stepX_yes (A B : Option Addr) (k d : Nat) (c : C) (at_ : Nat) (back : Bool) (ws : List Int) (w : World) (h : RdG w A c.gates) (hk : c.gates.length ≤ k) (hG : Good c) (hx : exchOk c at_ = true) :
    Calls Tryz.prog 106 #[.agg #[.int .i64 c.wires, .int .i64 c.bits, .slice A c.gates.length k], .agg #[.int .i64 43, .int .i64 at_, .bool back, .slice B ws.length d]] w (RetC (stepX c at_) w) := by
  have hlen := hG.len
  have hat : at_ + 1 < c.gates.length := by
    unfold exchOk at hx
    rcases Nat.lt_or_ge (at_ + 1) c.gates.length with h | h
    · exact h
    · rw [List.getElem?_eq_none h] at hx
      split at hx <;> simp_all
  have HH := Lib.hid (And.intro h hG)
  have HF := Lib.hid (show stepX c at_ = (0, ⟨c.wires, c.bits, swapG c.gates at_⟩, 0) by unfold stepX; rw [if_pos hx])
  have HX := Lib.hid hx
  clear h hG hx
  go_enter Tryz.func106, Tryz.ntmps106
  go_wp2_with fail
  obtain ⟨W1, hW1⟩ : ∃ W1, (((w.alloc (.cells #[.int .i64 c.wires, .int .i64 c.bits, .slice A c.gates.length k] 93)).alloc (.cells #[.int .i64 43, .int .i64 at_, .bool back, .slice B ws.length d] 27)).alloc (.cells #[.int .i64 0, .int .i64 0, .slice none 0 0] 24)).alloc (.cells #[.int .i64 c.wires, .int .i64 c.bits, .slice none 0 0] 24) = W1 := ⟨_, rfl⟩
  have hb01 : Below w.heap.size w W1 := by rw [← hW1]; (repeat (first|exact bR _ _|assumption|apply bN|apply bA|apply bD))
  have hz1 : W1.heap.size = w.heap.size + 4 := by rw [← hW1]; simp
  have p0 : W1.heap[w.heap.size]? = some (.cells #[.int .i64 c.wires, .int .i64 c.bits, .slice A c.gates.length k] 93) := by rw [← hW1]; exact alloc_old (alloc_old (alloc_old (blk_alloc _ _ _ rfl)))
  have p1 : W1.heap[w.heap.size + 1]? = some (.cells #[.int .i64 43, .int .i64 at_, .bool back, .slice B ws.length d] 27) := by rw [← hW1]; exact alloc_old (alloc_old (blk_alloc _ _ _ (by simp)))
  have p2 : W1.heap[w.heap.size + 1 + 1]? = some (.cells #[.int .i64 0, .int .i64 0, .slice none 0 0] 24) := by rw [← hW1]; exact alloc_old (blk_alloc _ _ _ (by simp))
  have p3 : W1.heap[w.heap.size + 1 + 1 + 1]? = some (.cells #[.int .i64 c.wires, .int .i64 c.bits, .slice none 0 0] 24) := by rw [← hW1]; exact blk_alloc _ _ _ (by simp)
  rw [hW1]
  clear hW1
  have hc1 := Commute_is A k c at_ W1 (HH.out.1.bG hb01) HH.out.2.1 HH.out.2.2
  refine Calls.mono hc1 ?_
  clear hc1
  rintro e w2 ⟨b, er, rfl, hyes, _, hb⟩
  obtain ⟨rfl, rfl⟩ := hyes HX.out
  have hb02 := hb01.trans (hb.mono hb01.size)
  have hw2 : w.heap.size + 4 ≤ w2.heap.size := by have := hb.size; omega
  replace p0 := blk2 hb p0
  replace p1 := blk2 hb p1
  replace p2 := blk2 hb p2
  replace p3 := blk2 hb p3
  have HP := Lib.hid (And.intro p0 (And.intro p1 (And.intro p2 p3)))
  obtain ⟨a0, a1, a2, af⟩ := cells3 p0
  clear hyes hb hb01 hz1 p0 p1 p2 p3
  go_wp2_with fail
  have hc2 := copied_any (some ⟨w2.heap.size, 0, none⟩) 1 [c.gates] (w2.alloc (.cells #[.slice A c.gates.length k] 22)) (RdGs.lit1 hk (HH.out.1.bG hb02)) (fun l hl g hg => HH.out.2.wires g (by rw [List.mem_singleton.1 hl] at hg; exact hg)) (by simp; omega)
  rw [List.flatten_singleton] at hc2
  refine Calls.mono hc2 ?_
  clear hc2
  rintro e w3 ⟨v3, rfl, ⟨ps, hps, hd, ho⟩, hb3⟩
  have hb23 : Below w2.heap.size w2 w3 := (below_alloc (Below.refl _ _) _).trans (hb3.mono (by simp))
  have hpl : ps.length = c.gates.length := by have := congrArg List.length hps; simpa using this
  obtain ⟨p, hp⟩ : ∃ p, ps[at_]? = some p := ⟨_, List.getElem?_eq_getElem (by omega)⟩
  obtain ⟨q, hq⟩ : ∃ q, ps[at_ + 1]? = some q := ⟨_, List.getElem?_eq_getElem (by omega)⟩
  replace ho : App (EGv 3 w2.heap.size) 55 4 w2.heap.size w3 v3 ps := ho.imp (by simp) (fun _ _ h => h.weak (by simp))
  obtain ⟨A3, c3, rfl, hc3⟩ := ho.form
  obtain ⟨b3, rfl, g0, g1, g2, g3, gin⟩ := ho.gateAt (g := p.1) (v := p.2) hp
  obtain ⟨b3', hb3', k0, k1, k2, k3, kin⟩ := ho.gateAt (g := q.1) (v := q.2) hq
  cases hb3'
  obtain ⟨Ap, cp, hpv, _⟩ := gin.form
  obtain ⟨Aq, cq, hqv, _⟩ := kin.form
  have hbb : w2.heap.size ≤ b3 := by
    obtain ⟨cs, ho', _⟩ := ho
    exact own_base ho' b3 rfl
  have hb03 := hb02.trans (hb23.mono (by omega))
  have HO := Lib.hid (And.intro ho (And.intro hps (And.intro hd (And.intro hp (And.intro hq (And.intro gin (And.intro kin hpl)))))))
  rw [hpl]
  rw [hpl] at hc3
  obtain ⟨pg, pv⟩ := p
  obtain ⟨qg, qv⟩ := q
  dsimp only at g0 g1 g2 g3 k0 k1 k2 k3 hpv hqv
  have HV := Lib.hid (And.intro hpv hqv)
  rw [hpv] at g1
  rw [hqv] at k1
  clear ho hps hd hp hq gin kin hpl hb3 hpv hqv
  have HP3 := Lib.hid (And.intro (blk2 hb23 HP.out.1) (And.intro (blk2 hb23 HP.out.2.1) (And.intro (blk2 hb23 HP.out.2.2.1) (blk2 hb23 HP.out.2.2.2))))
  obtain ⟨_, _, _, _⟩ := cells3 HP3.out.1
  obtain ⟨_, _, _, _, _⟩ := cells4 HP3.out.2.1
  obtain ⟨_, _, _, _⟩ := cells3 HP3.out.2.2.1
  obtain ⟨_, _, _, _⟩ := cells3 HP3.out.2.2.2
  have hfz : ∀ j, w3.frozen? ⟨b3, j, none⟩ = false := fun j => by
    obtain ⟨cs, ho', _⟩ := HO.out.1
    exact ho'.frozenAt j
  have hn1 : (b3 = w.heap.size) = False := by simp; omega
  have hn2 : (b3 = w.heap.size + 1) = False := by simp; omega
  have hn3 : (b3 = w.heap.size + 1 + 1) = False := by simp; omega
  have hn4 : (b3 = w.heap.size + 1 + 1 + 1) = False := by simp; omega
  have hm1 : (w.heap.size = b3) = False := by simp; omega
  have hm2 : (w.heap.size + 1 = b3) = False := by simp; omega
  have hm3 : (w.heap.size + 1 + 1 = b3) = False := by simp; omega
  have hm4 : (w.heap.size + 1 + 1 + 1 = b3) = False := by simp; omega
  have hat0 : (0 : Int) ≤ (at_ : Int) ∧ (at_ : Int) < (c.gates.length : Int) ∧ (at_ : Int) + 1 < (c.gates.length : Int) := ⟨by omega, by omega, by omega⟩
  obtain ⟨hat1, hat2, hat3⟩ := hat0
  have hnat : ((at_ : Int) + 1).toNat = at_ + 1 := by omega
  have hwr : IntKind.i64.wrap ((at_ : Int) + 1) = (at_ : Int) + 1 := IntWalk.i64_in _ (by omega)
  have hpos : (0 : Int) ≤ (at_ : Int) + 1 := by omega
  go_upto_region 7 with fail
  refine wp_region_sg (by kernel_rfl) [0, 1, 2, 3, 4, 5, 6, 7, 8, 9, 10, 11, 12, 13, 14, 15, 16, 17, 18, 19, 20, 21, 22, 23, 24, 25] (by kernel_rfl) (by kernel_rfl) (by kernel_rfl) ?_
  refine SG.p (v := ?v1_7_0) rfl rfl rfl (fun W => ?h1_7_0) ?r1_7_0
  case h1_7_0 => (first|(go_simp;done)|(go_simp;with_reducible rfl))
  simp only [Act.put, pA, pB, pC]
  refine SG.l (v := ?v1_7_1) rfl rfl rfl ?h1_7_1 ?r1_7_1
  case h1_7_1 => (first|(go_simp;done)|(go_simp;with_reducible rfl))
  simp only [Act.put, pA, pB, pC]
  refine SG.p (v := ?v1_7_2) rfl rfl rfl (fun W => ?h1_7_2) ?r1_7_2
  case h1_7_2 => (first|(go_simp;done)|(go_simp;with_reducible rfl))
  simp only [Act.put, pA, pB, pC]
  refine SG.l (v := ?v1_7_3) rfl rfl rfl ?h1_7_3 ?r1_7_3
  case h1_7_3 => (first|(go_simp;done)|(go_simp;with_reducible rfl))
  simp only [Act.put, pA, pB, pC]
  refine SG.p (v := ?v1_7_4) rfl rfl rfl (fun W => ?h1_7_4) ?r1_7_4
  case h1_7_4 => (first|(go_simp;done)|(go_simp;with_reducible rfl))
  simp only [Act.put, pA, pB, pC]
  refine SG.l (v := ?v1_7_5) rfl rfl rfl ?h1_7_5 ?r1_7_5
  case h1_7_5 => (first|(go_simp;done)|(go_simp;with_reducible rfl))
  simp only [Act.put, pA, pB, pC]
  refine SG.p (v := ?v1_7_6) rfl rfl rfl (fun W => ?h1_7_6) ?r1_7_6
  case h1_7_6 => (first|(go_simp;done)|(go_simp;with_reducible rfl))
  simp only [Act.put, pA, pB, pC]
  refine SG.l (v := ?v1_7_7) rfl rfl rfl ?h1_7_7 ?r1_7_7
  case h1_7_7 => (first|(go_simp;done)|(go_simp;with_reducible rfl))
  simp only [Act.put, pA, pB, pC]
  refine SG.p (v := ?v1_7_8) rfl rfl rfl (fun W => ?h1_7_8) ?r1_7_8
  case h1_7_8 => (first|(go_simp;done)|(go_simp;with_reducible rfl))
  simp only [Act.put, pA, pB, pC]
  refine SG.p (v := ?v1_7_9) rfl rfl rfl (fun W => ?h1_7_9) ?r1_7_9
  case h1_7_9 => (first|(go_simp;done)|(go_simp;with_reducible rfl))
  simp only [Act.put, pA, pB, pC]
  refine SG.l (v := ?v1_7_10) rfl rfl rfl ?h1_7_10 ?r1_7_10
  case h1_7_10 => (first|(go_simp;done)|(go_simp;with_reducible rfl))
  simp only [Act.put, pA, pB, pC]
  refine SG.p (v := ?v1_7_11) rfl rfl rfl (fun W => ?h1_7_11) ?r1_7_11
  case h1_7_11 => (first|(go_simp;done)|(go_simp;with_reducible rfl))
  simp only [Act.put, pA, pB, pC]
  refine SG.l (v := ?v1_7_12) rfl rfl rfl ?h1_7_12 ?r1_7_12
  case h1_7_12 => (first|(go_simp;done)|(go_simp;with_reducible rfl))
  simp only [Act.put, pA, pB, pC]
  refine SG.p (v := ?v1_7_13) rfl rfl rfl (fun W => ?h1_7_13) ?r1_7_13
  case h1_7_13 => (first|(go_simp;done)|(go_simp;with_reducible rfl))
  simp only [Act.put, pA, pB, pC]
  refine SG.p (v := ?v1_7_14) rfl rfl rfl (fun W => ?h1_7_14) ?r1_7_14
  case h1_7_14 => (first|(go_simp;done)|(go_simp;with_reducible rfl))
  simp only [Act.put, pA, pB, pC]
  refine SG.l (v := ?v1_7_15) rfl rfl rfl ?h1_7_15 ?r1_7_15
  case h1_7_15 => (first|(go_simp;done)|(go_simp;with_reducible rfl))
  simp only [Act.put, pA, pB, pC]
  refine SG.p (v := ?v1_7_16) rfl rfl rfl (fun W => ?h1_7_16) ?r1_7_16
  case h1_7_16 => (first|(go_simp;done)|(go_simp;with_reducible rfl))
  simp only [Act.put, pA, pB, pC]
  refine SG.l (v := ?v1_7_17) rfl rfl rfl ?h1_7_17 ?r1_7_17
  case h1_7_17 => (first|(go_simp;done)|(go_simp;with_reducible rfl))
  simp only [Act.put, pA, pB, pC]
  refine SG.p (v := ?v1_7_18) rfl rfl rfl (fun W => ?h1_7_18) ?r1_7_18
  case h1_7_18 => (first|(go_simp;done)|(go_simp;with_reducible rfl))
  simp only [Act.put, pA, pB, pC]
  refine SG.l (v := ?v1_7_19) rfl rfl rfl ?h1_7_19 ?r1_7_19
  case h1_7_19 => (first|(go_simp;done)|(go_simp;with_reducible rfl))
  simp only [Act.put, pA, pB, pC]
  refine SG.p (v := ?v1_7_20) rfl rfl rfl (fun W => ?h1_7_20) ?r1_7_20
  case h1_7_20 => (first|(go_simp;done)|(go_simp;with_reducible rfl))
  simp only [Act.put, pA, pB, pC]
  refine SG.l (v := ?v1_7_21) rfl rfl rfl ?h1_7_21 ?r1_7_21
  case h1_7_21 => (first|(go_simp;done)|(go_simp;with_reducible rfl))
  simp only [Act.put, pA, pB, pC]
  refine SG.p (v := ?v1_7_22) rfl rfl rfl (fun W => ?h1_7_22) ?r1_7_22
  case h1_7_22 => (first|(go_simp;done)|(go_simp;with_reducible rfl))
  simp only [Act.put, pA, pB, pC]
  refine SG.k (w' := ?w1_7_23) rfl rfl rfl ?h1_7_23 ?s1_7_23 ?r1_7_23
  case h1_7_23 => (first|(go_simp;done)|(go_simp;with_reducible rfl))
  case s1_7_23 => exact ⟨(nw (by kernel_rfl)), (fun _ => ⟨_, drop_at rfl, by (first|(go_simp;done)|(go_simp;with_reducible rfl))⟩), (fun _ => ⟨_, drop_at rfl, by (first|(go_simp;done)|(go_simp;with_reducible rfl))⟩), (nw (by kernel_rfl)), (nw (by kernel_rfl)), (nw (by kernel_rfl)), (fun _ => ⟨_, drop_at rfl, by (first|(go_simp;done)|(go_simp;with_reducible rfl))⟩), (fun _ => ⟨_, drop_at rfl, by (first|(go_simp;done)|(go_simp;with_reducible rfl))⟩), (nw (by kernel_rfl)), (nw (by kernel_rfl)), trivial⟩
  simp only [Act.put, pA, pB, pC]
  refine SG.p (v := ?v1_7_24) rfl rfl rfl (fun W => ?h1_7_24) ?r1_7_24
  case h1_7_24 => (first|(go_simp;done)|(go_simp;with_reducible rfl))
  simp only [Act.put, pA, pB, pC]
  refine SG.k (w' := ?w1_7_25) rfl rfl rfl ?h1_7_25 ?s1_7_25 ?r1_7_25
  case h1_7_25 => (first|(go_simp;done)|(go_simp;with_reducible rfl))
  case s1_7_25 => exact ⟨(nw (by kernel_rfl)), (nw (by kernel_rfl)), (nw (by kernel_rfl)), (nw (by kernel_rfl)), (nw (by kernel_rfl)), (nw (by kernel_rfl)), (nw (by kernel_rfl)), (nw (by kernel_rfl)), (nw (by kernel_rfl)), (nw (by kernel_rfl)), trivial⟩
  simp only [Act.put, pA, pB, pC]
  simp only [SG]
  go_wp2
  obtain ⟨ho, hps, hd, hp, hq, gin, kin, hpl⟩ := HO.out
  obtain ⟨rfl, rfl⟩ := HV.out
  obtain ⟨m1, m2, m3⟩ := map_swap hps hp hq
  have hsw : swapG c.gates at_ = (c.gates.set at_ qg).set (at_ + 1) pg := by unfold swapG; rw [m2, m3]
  rw [HF.out]
  rw [hpl] at ho
  have hs0 := ho.setBox (a := ⟨w.heap.size + 1 + 1 + 1, 2, none⟩) (by simp; omega) (by simp; omega) (.slice (some ⟨b3, 0, none⟩) c.gates.length c3)
  have hg0 := gin.setCell (a := ⟨w.heap.size + 1 + 1 + 1, 2, none⟩) (by simp; omega) (.slice (some ⟨b3, 0, none⟩) c.gates.length c3)
  have hk0 := kin.setCell (a := ⟨w.heap.size + 1 + 1 + 1, 2, none⟩) (by simp; omega) (.slice (some ⟨b3, 0, none⟩) c.gates.length c3)
  have hs1 := App.swap (by decide) hs0 hpl hp hq hg0 hk0
  have hOwn : Own 3 55 w2.heap.size _ _ (swapG c.gates at_) := ⟨_, by rw [hsw]; exact m1, hd.swap hp hq, hs1⟩
  have hbb3 : w.heap.size ≤ b3 := by omega
  have nb : ∀ {b : Nat}, b ≠ w.heap.size + 1 + 1 → ∀ (W : World) (j : Nat) (u : Value), (W.setCell ⟨b, j, none⟩ u).heap[w.heap.size + 1 + 1]? = W.heap[w.heap.size + 1 + 1]? := fun h W j u => heap_setCell_other _ _ _ _ (fun e => h e.symm)
  have n3 : b3 ≠ w.heap.size + 1 + 1 := by omega
  refine bodyPost_ret (results_list (rs := [.cell 4 24, .tmp 5, .tmp 6]) rfl (by simp) (.cell (w.heap.size + 1 + 1) 24 _ _ _ rfl (by rw [drew_heap]; refine set3 (x0 := .int .i64 0) (x1 := .int .i64 0) (x2 := .slice none 0 0) (T := 24) ?_; rw [nb n3, nb n3, nb n3, nb n3, nb n3, nb n3, nb n3, nb n3, nb (by omega)]; exact HP3.out.2.2.1) Tryz.underlying24 rfl (by kernel_rfl) (.tmp (.tmp .nil)))) rfl ⟨_, rfl, ?_, ?_⟩
  · exact ((((hOwn.setCell (by simp; omega) _).setCell (by simp; omega) _).setCell (by simp; omega) _).drew).weak (by omega)
  · refine Below.drew ?_
    have s : ∀ {W : World}, Below w.heap.size w W → ∀ (b j : Nat) (u : Value), w.heap.size ≤ b → Below w.heap.size w (W.setCell ⟨b, j, none⟩ u) := fun h b j u hb => h.setCell (p := ⟨b, j, none⟩) hb u
    exact s (s (s (s (s (s (s (s (s (s (s (s hb03 _ _ _ (by omega)) _ _ _ hbb3) _ _ _ hbb3) _ _ _ hbb3) _ _ _ hbb3) _ _ _ hbb3) _ _ _ hbb3) _ _ _ hbb3) _ _ _ hbb3) _ _ _ (by omega)) _ _ _ (by omega)) _ _ _ (by omega)
theorem step_any (A B : Option Addr) (k d : Nat) (c : C) (s : M) (w : World) (HT : Hid (Laid w)) (h : RdG w A c.gates) (hk : c.gates.length ≤ k) (h' : RdI w B s.wires) (hG : Good c) (hm : moveE c s = 0) :
    Calls Tryz.prog 106 #[.agg #[.int .i64 c.wires, .int .i64 c.bits, .slice A c.gates.length k], .agg #[.int .i64 s.rule, .int .i64 s.at_, .bool s.back, .slice B s.wires.length d]] w (RetC (stepR c s) w) := by
  unfold moveE at hm
  split at hm
  · cases hm
  split at hm
  · cases hm
  split at hm
  · cases hm
  rename_i h1 h2 h3
  obtain ⟨rule, at_, back, ws⟩ := s
  dsimp only at *
  obtain ⟨i, rfl⟩ : ∃ i : Nat, rule = (i : Int) := ⟨rule.toNat, by omega⟩
  obtain ⟨j, rfl⟩ : ∃ j : Nat, at_ = (j : Int) := ⟨at_.toNat, by omega⟩
  simp only [Int.toNat_natCast] at h3
  unfold stepR
  dsimp only
  by_cases h43 : i = 43
  · subst h43
    rw [if_pos (show ((43 : Nat) : Int) = 43 from rfl), Int.toNat_natCast, show ((43 : Nat) : Int) = 43 from rfl]
    cases hx : exchOk c j
    · exact stepX_no A B k d c j back ws w h hG (by omega) hx
    · exact stepX_yes A B k d c j back ws w h hk hG hx
  · rw [if_neg (by omega), Int.toNat_natCast, Int.toNat_natCast]
    exact stepN_any A B k d c i j back ws w HT h hk h' hG (by omega) (by omega) (by omega)
def Clr (T : TypeId) (sz B : Nat) (W : World) (v : Value) (n : Nat) : Prop :=
  (v = .slice none 0 0 ∧ n = 0) ∨ ∃ g cap cs, v = .slice (some ⟨g, 0, none⟩) n cap ∧ W.heap[g]? = some (.cells cs T (0, 0)) ∧ n * sz ≤ cs.size ∧ B ≤ g
def Wipes (T : TypeId) (B : Nat) (W W' : World) : Prop :=
  (W'.os = W.os ∧ W'.tape = W.tape ∧ W'.output = W.output ∧ W'.heap.size = W.heap.size) ∧ ∀ g o, W.heap[g]? = some o → W'.heap[g]? = some o ∨ ∃ cs cs', o = .cells cs T (0, 0) ∧ W'.heap[g]? = some (.cells cs' T (0, 0)) ∧ cs'.size = cs.size ∧ B ≤ g
theorem Wipes.refl (T : TypeId) (B : Nat) (W : World) : Wipes T B W W := ⟨⟨rfl, rfl, rfl, rfl⟩, fun _ _ h => .inl h⟩
theorem Wipes.below {T : TypeId} {B : Nat} {W W' : World} (h : Wipes T B W W') : Below B W W' :=
  ⟨h.1.1, h.1.2.1, h.1.2.2.1, Nat.le_of_eq h.1.2.2.2.symm, fun i hi => by
    rcases Nat.lt_or_ge i W.heap.size with hl | hl
    · obtain ⟨o, ho⟩ : ∃ o, W.heap[i]? = some o := ⟨_, Array.getElem?_eq_getElem hl⟩
      rcases h.2 i o ho with h' | ⟨_, _, _, _, _, hb⟩
      · rw [h', ho]
      · omega
    · rw [Array.getElem?_eq_none hl, Array.getElem?_eq_none (by rw [h.1.2.2.2]; exact hl)]⟩
theorem Clr.wiped {T T' : TypeId} {sz B : Nat} {W W' : World} {v : Value} {n : Nat} (h : Clr T' sz B W v n) (hw : Wipes T B W W') : Clr T' sz B W' v n := by
  rcases h with h | ⟨g, cap, cs, rfl, hh, hs, hb⟩
  · exact .inl h
  · rcases hw.2 g _ hh with h' | ⟨c1, c2, e, h', hz, _⟩
    · exact .inr ⟨g, cap, cs, rfl, h', hs, hb⟩
    · cases e
      exact .inr ⟨g, cap, c2, rfl, h', by omega, hb⟩
theorem App.wiped {α : Type} {E : World → α → List Value → Prop} {T T' : TypeId} {sz B B' : Nat} {W W' : World} {v : Value} {xs : List α} (h : App E T' sz B W v xs) (hw : Wipes T B' W W') (hT : T' ≠ T) (hE : ∀ x cs, E W x cs → E W' x cs) : App E T' sz B W' v xs := by
  obtain ⟨cs, ho, hr⟩ := h
  refine ⟨cs, own_heap ho fun k e => ?_, hr.imp hE⟩
  obtain ⟨row, hc⟩ : ∃ row, W.heap[k]? = some (.cells row T' (0, 0)) := by
    rcases ho.2 with ⟨rfl, _⟩ | ⟨g, cap, cur, rfl, _, hh, _⟩
    · cases e
    · cases e; exact ⟨_, hh⟩
  rcases hw.2 k _ hc with h' | ⟨c1, c2, e', _⟩
  · rw [h', hc]
  · injection e' with _ e'; exact absurd e' hT
theorem setCells_wipes {T : TypeId} {B b : Nat} (hB : B ≤ b) : ∀ (vs : List Value) (o : Nat) (W : World) (cs : Array Value), W.heap[b]? = some (.cells cs T (0, 0)) → Wipes T B W (W.setCells b o vs)
  | [], o, W, cs, h => Wipes.refl _ _ _
  | v :: vs, o, W, cs, h => by
    have h1 : (W.setCell ⟨b, o, none⟩ v).heap[b]? = some (.cells (cs.setIfInBounds o v) T (0, 0)) := heap_setCell_same _ _ o _ _ _ h
    obtain ⟨h2, h3⟩ := setCells_wipes hB vs (o + 1) _ _ h1
    refine ⟨⟨h2.1, h2.2.1, h2.2.2.1, h2.2.2.2.trans (by simp)⟩, fun g x hx => ?_⟩
    by_cases hg : g = b
    · subst hg
      rw [h] at hx
      cases hx
      rcases h3 g _ h1 with h' | ⟨c1, c2, e, h', hz, _⟩
      · exact .inr ⟨_, _, rfl, h', by simp, hB⟩
      · cases e
        exact .inr ⟨_, _, rfl, h', by rw [hz]; simp, hB⟩
    · exact h3 g x ((heap_setCell_other W ⟨b, o, none⟩ g v hg).trans hx)
theorem Clr.cells {T : TypeId} {B g n sz : Nat} {W : World} {cs : Array Value} (hh : W.heap[g]? = some (.cells cs T (0, 0))) (hs : n * sz ≤ cs.size) : (∀ j, j < n * sz → (W.cell? ⟨g, j, none⟩).isSome = true) ∧ ∀ j, W.frozen? ⟨g, j, none⟩ = false := by
  constructor
  · intro j hj
    rw [cell_of_row _ _ j _ _ (0, 0) hh]
    simp; omega
  · intro j
    exact frozen_of_row _ _ j _ _ hh
theorem run_clear_any {P : Program} (T t ty : TypeId) (z : Value) (sz : Nat) (ht : P.underlying t = some (.slice T)) (hv : ∀ w, (zeroValue T).run P w = .ok z w) (hz : z.cells.size = sz) (h1 : ∀ i, i < sz → (z.cells[i]!).oneCell' = true) (hs : 0 < sz)
    {B m : Nat} {W : World} {v : Value} (h : Clr T sz B W v m) : ∃ W', (Builtin.clear_ #[t] ty #[v]).run P W = .ok (.tuple #[]) W' ∧ Wipes T B W W' := by
  rcases h with ⟨rfl, rfl⟩ | ⟨g, cap, cs, rfl, hh, hsz, hB⟩
  · exact ⟨W, by simp [Builtin.clear_, run_underlying ht], Wipes.refl _ _ _⟩
  · rcases m with _ | m
    · exact ⟨W, by simp [Builtin.clear_, run_underlying ht], Wipes.refl _ _ _⟩
    · obtain ⟨hc, hf⟩ := Clr.cells (B := B) hh hsz
      have hlen : (Builtin.zeroCells z.cells (m + 1)).toList.length = (m + 1) * sz := by simp [Builtin.zeroCells, hz]
      have hst := run_storeCells_cells (P := P) g 0 (Builtin.zeroCells z.cells (m + 1)).toList 0 W (fun j hj => by simpa using hc j (by omega)) (fun j _ => by simpa using hf _) (by
        intro u hu
        simp only [Builtin.zeroCells, Array.toList_map, Array.toList_range, List.mem_map, List.mem_range] at hu
        obtain ⟨i, hi, rfl⟩ := hu
        exact h1 _ (by rw [hz]; exact Nat.mod_lt _ hs))
      exact ⟨W.setCells g 0 (Builtin.zeroCells z.cells (m + 1)).toList, by simp [Builtin.clear_, run_underlying ht, hv, hst], setCells_wipes hB _ _ _ _ hh⟩
section
variable {P : Program} {ops : Array Oper} {rest : List Oper} {o : Oper} {a : Act} {Q : Exit → Act → World → Prop}
end
theorem App.clr {α : Type} {E : World → α → List Value → Prop} {T sz B : Nat} {w : World} {v : Value} {xs : List α} (h : App E T sz B w v xs) : Clr T sz B w v xs.length := by
  obtain ⟨cs, ho, hr⟩ := h
  rcases ho.2 with ⟨rfl, h0⟩ | ⟨g, cap, cur, rfl, hb, hh, hc, hl⟩
  · exact .inl ⟨rfl, h0⟩
  · refine .inr ⟨g, cap, _, rfl, hh, ?_, hb⟩
    have h1 := Nat.mul_le_mul_right sz hc
    have h2 := hl.2.1
    omega
def bindW (b : List Int) : List Int → List Int → Option (List Int)
  | x :: xs, y :: ys => if b.getD x.toNat 0 < 0 ∧ ¬ y ∈ b then bindW (b.set x.toNat y) xs ys else if b.getD x.toNat 0 ≠ y then none else bindW b xs ys
  | _, _ => some b
def bindG (b : List Int) : List G → List G → Option (List Int)
  | g :: gs, h :: hs => if g.kind ≠ h.kind then none else match bindW b g.wires h.wires with
    | some b' => bindG b' gs hs
    | none => none
  | _, _ => some b
def unb : List Int := [-1, -1, -1]
def bindsR (c : C) (l : List G) (at_ : Nat) : Option (List Int) := if c.gates.length < at_ + l.length then none else bindG unb l (c.gates.drop at_)
def chooseL (c : C) (i : Nat) (back : Bool) (at_ : Nat) : Nat → Nat → List Int → List (M × C)
  | 0, k, b => if (stepR c ⟨i, at_, back, b.take k⟩).1 = 0 then [(⟨i, at_, back, b.take k⟩, (stepR c ⟨i, at_, back, b.take k⟩).2.1)] else []
  | f + 1, k, b => if 0 ≤ b.getD k 0 then chooseL c i back at_ f (k + 1) b else (List.range c.wires.toNat).flatMap fun (w : Nat) => if (w : Int) ∈ b then [] else chooseL c i back at_ f (k + 1) (b.set k (w : Int))
def atL (c : C) (i : Nat) (back : Bool) (at_ : Nat) : List (M × C) := match bindsR c (fromG i back) at_ with
  | none => []
  | some b => if b = unb ∧ c.wires < ruleW i then [] else chooseL c i back at_ (ruleW i).toNat 0 b
def stepsL (c : C) (i : Nat) (back : Bool) : List (M × C) := (List.range (c.gates.length + 1)).flatMap (atL c i back)
def fitB (i : Nat) (back : Bool) : Bool := !(decide (i = 43) && back)
def StepsR (c : C) (rule : Int) (back : Bool) : Int × List M :=
  if plainE c ≠ 0 then (plainE c, []) else if rule < 0 ∨ 44 ≤ rule then (1, []) else
  if fitB rule.toNat back = false then (7, []) else (0, (stepsL c rule.toNat back).map Prod.fst)
def lessB (i : Nat) : Bool := decide ((ruleR i).length < (ruleL i).length)
def shortest (c : C) : Option (M × C) := (List.range 44).findSome? fun i => if lessB i = true then (stepsL c i false).head? else none
def shortenL : Nat → C → List M
  | 0, _ => []
  | f + 1, c => match shortest c with
    | none => []
    | some (s, d) => s :: shortenL f d
def ShortenR (c : C) : Int × List M := if plainE c = 0 then (0, shortenL (c.gates.length + 1) c) else (plainE c, [])
def reachedL : Nat → C → C → Option (List M)
  | 0, c, d => if c = d then some [] else none
  | n + 1, c, d => (List.range 44).findSome? fun i => [false, true].findSome? fun back => if fitB i back = true then (stepsL c i back).findSome? fun x => (reachedL n x.2 d).map (x.1 :: ·) else none
def SearchR (c d : C) (most : Int) : Int × List M :=
  if check c ≠ 0 then (check c, []) else if check d ≠ 0 then (check d, []) else
  if plainE c ≠ 0 ∨ plainE d ≠ 0 ∨ c.wires ≠ d.wires ∨ c.bits ≠ d.bits then (7, []) else
  if 8 < c.gates.length ∨ 3 < c.wires ∨ 8 < d.gates.length ∨ 3 < d.wires then (8, []) else
  if most < 0 ∨ 2 < most then (3, []) else
  match (List.range (most.toNat + 1)).findSome? fun n => reachedL n c d with
  | some l => (0, l)
  | none => (6, [])
structure BOk (c : C) (b : List Int) : Prop where
  len : b.length = 3
  lt : ∀ x ∈ b, x < c.wires
  ge : ∀ x ∈ b, -1 ≤ x
  apart : b.Pairwise fun x y => 0 ≤ x → x ≠ y
theorem BOk.unb {c : C} (h : 0 ≤ c.wires) : BOk c unb := ⟨rfl, by simp [Go.Proofs.YtfommmijojfdbaaGreatDoor.unb]; omega, by simp [Go.Proofs.YtfommmijojfdbaaGreatDoor.unb], by simp [Go.Proofs.YtfommmijojfdbaaGreatDoor.unb]⟩
theorem BOk.set {c : C} {b : List Int} (h : BOk c b) {k : Nat} {y : Int} (hk : b.getD k 0 < 0) (hy : ¬ y ∈ b) (h0 : 0 ≤ y) (h1 : y < c.wires) : BOk c (b.set k y) := by
  obtain ⟨x0, x1, x2, rfl⟩ : ∃ x0 x1 x2, b = [x0, x1, x2] := by
    have := h.len
    match b, this with
    | [x0, x1, x2], _ => exact ⟨x0, x1, x2, rfl⟩
  have e1 := h.lt
  have e2 := h.ge
  have e3 := h.apart
  simp at e1 e2 e3 hy
  rcases k with _ | _ | _ | k
  all_goals simp at hk
  all_goals
    refine ⟨by simp, ?_, ?_, ?_⟩
    all_goals (try simp)
    all_goals (try omega)
theorem nodup_of_apart {b : List Int} (h : b.Pairwise fun x y => 0 ≤ x → x ≠ y) : ∀ k, (∀ x ∈ b.take k, 0 ≤ x) → (b.take k).Nodup := by
  intro k hk
  have h2 : (b.take k).Pairwise fun x y => 0 ≤ x → x ≠ y := h.sublist (List.take_sublist _ _)
  refine h2.imp_of_mem ?_
  intro x y hx _ hh
  exact hh (hk x hx)
theorem fitB_43 {i : Nat} {back : Bool} (h : fitB i back = true) : ¬ (i = 43 ∧ back = true) := by
  rintro ⟨rfl, rfl⟩
  cases h
theorem moveE_chosen {c : C} {i at_ : Nat} {back : Bool} {b : List Int} (hi : i < 44) (hf : fitB i back = true) (hat : at_ ≤ c.gates.length) (h : BOk c b) (hk : ∀ x ∈ b.take (ruleW i).toNat, 0 ≤ x) : moveE c ⟨i, at_, back, b.take (ruleW i).toNat⟩ = 0 := by
  have hw := (rule_ok i hi).2.2
  have hl : ((b.take (ruleW i).toNat).length : Int) = ruleW i := by rw [List.length_take, h.len]; omega
  unfold moveE
  dsimp only
  rw [if_neg (by omega), if_neg (by omega), Int.toNat_natCast, if_neg (by rw [hl]; simp), if_neg, if_neg, if_neg]
  · rintro ⟨h1, h2⟩
    exact fitB_43 hf ⟨by omega, h2⟩
  · rw [Classical.not_not]; exact nodup_of_apart h.apart _ hk
  · simp only [Bool.not_eq_false, List.all_eq_true, decide_eq_true_eq]
    exact fun x hx => ⟨hk x hx, h.lt x (List.mem_of_mem_take hx)⟩
end Go.Proofs.YtfommmijojfdbaaGreatDoor
