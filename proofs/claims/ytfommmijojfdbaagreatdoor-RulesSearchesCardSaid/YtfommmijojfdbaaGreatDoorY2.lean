/- The law RulesSearches holds for every input: the call returns true, and what is passed in reads behind it as it read before; the listed variables are tied to the program's text. -/
import Derived.Test.YtfommmijojfdbaaGreatDoorAW
import Derived.Test.YtfommmijojfdbaaGreatDoorY1
import Derived.Test.YtfommmijojfdbaaGreatDoorM1
import Derived.Test.YtfommmijojfdbaaGreatDoorZ11
import Derived.Test.YtfommmijojfdbaaGreatDoorCards
import Derived.Test.YtfommmijojfdbaaGreatDoorTie
import Derived.SevenTiedAt
set_option linter.all false
namespace Go.Proofs.YtfommmijojfdbaaGreatDoor
open Go.RowKit

theorem set3_ne {W : World} {b g : Nat} {u0 u1 u2 : Value} (h : g ≠ b) : (((W.setCell ⟨b, 0, none⟩ u0).setCell ⟨b, 1, none⟩ u1).setCell ⟨b, 2, none⟩ u2).heap[g]? = W.heap[g]? :=
  (heap_setCell_other _ _ _ _ h).trans ((heap_setCell_other _ _ _ _ h).trans (heap_setCell_other _ _ _ _ h))
theorem reachedL_small {d : C} : ∀ (n : Nat) (c : C) (l : List M), Good c → reachedL n c d = some l → l.length = n ∧ ∀ s ∈ l, s.wires.length ≤ 3
  | 0, c, l, _, h => by
    unfold reachedL at h
    split at h
    · cases h; exact ⟨rfl, fun s hs => by cases hs⟩
    · cases h
  | n + 1, c, l, hG, h => by
    unfold reachedL at h
    obtain ⟨i, hi, h⟩ := List.exists_of_findSome?_eq_some h
    rw [List.mem_range] at hi
    obtain ⟨back, _, h⟩ := List.exists_of_findSome?_eq_some h
    split at h
    · rename_i hf
      obtain ⟨x, hx, h⟩ := List.exists_of_findSome?_eq_some h
      obtain ⟨l', h', rfl⟩ := Option.map_eq_some_iff.1 h
      obtain ⟨_, _, _, _, h5, h6⟩ := stepsL_good hi hf hG x hx
      obtain ⟨k1, k2⟩ := reachedL_small n x.2 l' h6 h'
      refine ⟨by simp [k1], fun s hs => ?_⟩
      rcases List.mem_cons.1 hs with rfl | hs
      · exact h5
      · exact k2 s hs
    · cases h
theorem SearchR_small (c d : C) (most : Int) : (SearchR c d most).2.length ≤ 1000 ∧ ∀ s ∈ (SearchR c d most).2, s.wires.length ≤ 3 := by
  have hz : ∀ (l : List M), l = [] → l.length ≤ 1000 ∧ ∀ s ∈ l, s.wires.length ≤ 3 := fun l e => by subst e; exact ⟨by simp, fun s hs => by cases hs⟩
  unfold SearchR
  split
  · exact hz _ rfl
  split
  · exact hz _ rfl
  split
  · exact hz _ rfl
  rename_i h1 _ h3
  split
  · exact hz _ rfl
  split
  · exact hz _ rfl
  rename_i h5
  split
  · rename_i l hl
    obtain ⟨n, hn, h⟩ := List.exists_of_findSome?_eq_some hl
    rw [List.mem_range] at hn
    have hG : Good c := plainE_good.1 (Classical.not_not.1 fun e => h3 (.inl e))
    obtain ⟨k1, k2⟩ := reachedL_small n c l hG h
    exact ⟨by dsimp only; omega, k2⟩
  · exact hz _ rfl
theorem own_leaf {w4 V : World} {fs : List Fact} {b1 b2 B1 B5 c3 d3 : Nat} {c d : C} {A3 D3 : Option Addr} {z0 z1 z2 y0 y1 y2 : Value} (HW : AllF w4 fs) (hb : Below w4.heap.size w4 V) (h1 : w4.heap.size ≤ b1) (h2 : w4.heap.size ≤ b2) (hne : b1 ≠ b2)
    (x6 : V.heap[b1]? = some (.cells #[z0, z1, z2] 24 (0, 0))) (x7 : V.heap[b2]? = some (.cells #[y0, y1, y2] 24 (0, 0))) (o1 : Own 3 55 B1 V (.slice A3 c.gates.length c3) c.gates) (o5 : Own 3 55 B5 V (.slice D3 d.gates.length d3) d.gates)
    (HC : c.gates.length ≤ 130 ∧ ∀ g ∈ c.gates, g.wires.length ≤ 6) (HD : d.gates.length ≤ 130 ∧ ∀ g ∈ d.gates, g.wires.length ≤ 6) :
    AllF ((((((V.setCell ⟨b1, 0, none⟩ (.int .i64 c.wires)).setCell ⟨b1, 1, none⟩ (.int .i64 c.bits)).setCell ⟨b1, 2, none⟩ (.slice A3 c.gates.length c3)).setCell ⟨b2, 0, none⟩ (.int .i64 d.wires)).setCell ⟨b2, 1, none⟩ (.int .i64 d.bits)).setCell ⟨b2, 2, none⟩ (.slice D3 d.gates.length d3))
      (.x b2 #[.int .i64 d.wires, .int .i64 d.bits, .slice D3 d.gates.length d3] 24 :: .x b1 #[.int .i64 c.wires, .int .i64 c.bits, .slice A3 c.gates.length c3] 24 :: .g D3 d.gates :: .g A3 c.gates :: fs) := by
  have k7 := (set3_ne (u0 := .int .i64 c.wires) (u1 := .int .i64 c.bits) (u2 := .slice A3 c.gates.length c3) (Ne.symm hne)).trans x7
  have hbF := (((((hb.setCell (p := ⟨b1, 0, none⟩) h1 (.int .i64 c.wires)).setCell (p := ⟨b1, 1, none⟩) h1 (.int .i64 c.bits)).setCell (p := ⟨b1, 2, none⟩) h1 (.slice A3 c.gates.length c3)).setCell (p := ⟨b2, 0, none⟩) h2 (.int .i64 d.wires)).setCell (p := ⟨b2, 1, none⟩) h2 (.int .i64 d.bits)).setCell (p := ⟨b2, 2, none⟩) h2 (.slice D3 d.gates.length d3)
  have o1' := (o1.setT3 (u0 := .int .i64 c.wires) (u1 := .int .i64 c.bits) (u2 := .slice A3 c.gates.length c3) x6 (by decide) (by decide)).setT3 (u0 := .int .i64 d.wires) (u1 := .int .i64 d.bits) (u2 := .slice D3 d.gates.length d3) k7 (by decide) (by decide)
  have o5' := (o5.setT3 (u0 := .int .i64 c.wires) (u1 := .int .i64 c.bits) (u2 := .slice A3 c.gates.length c3) x6 (by decide) (by decide)).setT3 (u0 := .int .i64 d.wires) (u1 := .int .i64 d.bits) (u2 := .slice D3 d.gates.length d3) k7 (by decide) (by decide)
  exact ((((HW.step hbF).push (.g A3 c.gates) (o1'.rG (by have := HC.1; omega) fun g hg => by have := HC.2 g hg; omega)).push (.g D3 d.gates) (o5'.rG (by have := HD.1; omega) fun g hg => by have := HD.2 g hg; omega)).push (.x b1 _ _) ((set3_ne hne).trans (set3 x6))).push (.x b2 _ _) (set3 k7)
set_option maxRecDepth 1000000 in
set_option maxHeartbeats 16000000 in
theorem searches_law (A D : Option Addr) (k n : Nat) (c d : C) (most : Int) (w : World) (HT : Hid (Laid w)) (h : RdG w A c.gates) (hk : c.gates.length ≤ k) (h'' : RdG w D d.gates) (hn : d.gates.length ≤ n) :
    Calls Tryz.prog 7 #[.agg #[.int .i64 c.wires, .int .i64 c.bits, .slice A c.gates.length k], .agg #[.int .i64 d.wires, .int .i64 d.bits, .slice D d.gates.length n], .int .i64 most] w fun e w' => e = .returned (.bool true) ∧ Below w.heap.size w w' := by
  have HF := Lib.hid (((AllF.nil w).push (.bel w) (Below.refl _ _)).push (.g A c.gates) h |>.push (.g D d.gates) h'')
  clear h h''
  go_enter Tryz.func7, Tryz.ntmps7
  go_upto_region 1 with fail
  generalize hV : World.alloc (World.alloc w _) _ = W1
  replace HF := Lib.hid (HF.out.al2 hV)
  clear hV
  obtain ⟨a0, a1, a2, af, la⟩ := HF.out.i3 1
  obtain ⟨b0, b1, b2, bf, lb⟩ := HF.out.i3 0
  have hold := olds W1
  obtain ⟨q, hq⟩ : ∃ q, greatC c = q := ⟨_, rfl⟩
  have hg := Great_any A k c W1 (HF.out.iG 3)
  rw [hq] at hg
  go_wp2_with fail
  refine hg.mono ?_
  clear hg
  rintro e w2 ⟨rfl, hb⟩
  replace HF := Lib.hid (HF.out.step hb)
  clear hb a0 a1 a2 af la b0 b1 b2 bf lb hold
  obtain ⟨a0, a1, a2, af, la⟩ := HF.out.i3 1
  obtain ⟨b0, b1, b2, bf, lb⟩ := HF.out.i3 0
  have hold := olds w2
  cases q with
  | true =>
    clear hq
    go_wp2_with fail
    refine (awake_any _ (Lib.hid (HT.out.below (HF.out.iB 4)))).mono ?_
    rintro e w99 ⟨rfl, hb⟩
    replace HF := Lib.hid (HF.out.step hb)
    clear hb
    go_wp2
    go_ret
    exact ⟨rfl, HF.out.iB 4⟩
  | false =>
  have HC := Lib.hid (greatC_no hq)
  clear hq
  obtain ⟨q, hq⟩ : ∃ q, greatC d = q := ⟨_, rfl⟩
  have hg := Great_any D n d w2 (HF.out.iG 2)
  rw [hq] at hg
  go_wp2_with fail
  refine hg.mono ?_
  clear hg
  rintro e w4 ⟨rfl, hb⟩
  replace HF := Lib.hid (HF.out.step hb)
  clear hb a0 a1 a2 af la b0 b1 b2 bf lb hold
  obtain ⟨a0, a1, a2, af, la⟩ := HF.out.i3 1
  obtain ⟨b0, b1, b2, bf, lb⟩ := HF.out.i3 0
  have hold := olds w4
  cases q with
  | true =>
    clear hq
    go_wp2_with fail
    refine (awake_any _ (Lib.hid (HT.out.below (HF.out.iB 4)))).mono ?_
    rintro e w99 ⟨rfl, hb⟩
    replace HF := Lib.hid (HF.out.step hb)
    clear hb
    go_wp2
    go_ret
    exact ⟨rfl, HF.out.iB 4⟩
  | false =>
  have HD := Lib.hid (greatC_no hq)
  clear hq
  go_upto_region 3 with fail
  have HW4 := Lib.hid HF.out
  have hlw : w.heap.size + 1 < w4.heap.size := lb
  replace HF := Lib.hid (HF.out.push (.bel w4) (Below.refl _ _))
  go_cut [7, 8] (fun p q wx => ∃ bo A3 c3 bp D3 d3, p = .pointer (some ⟨bo, 0, none⟩) ∧ q = .pointer (some ⟨bp, 0, none⟩) ∧ c.gates.length ≤ c3 ∧ d.gates.length ≤ d3 ∧ Hid (AllF wx [.x bp #[.int .i64 d.wires, .int .i64 d.bits, .slice D3 d.gates.length d3] 24, .x bo #[.int .i64 c.wires, .int .i64 c.bits, .slice A3 c.gates.length c3] 24, .g D3 d.gates, .g A3 c.gates, .x (w.heap.size + 1) #[.int .i64 d.wires, .int .i64 d.bits, .slice D d.gates.length n] 24, .x w.heap.size #[.int .i64 c.wires, .int .i64 c.bits, .slice A c.gates.length k] 24, .g D d.gates, .g A c.gates, .bel w]))
  case first =>
    refine wp_region_st (by kernel_rfl) (.op 0 (.op 2 (.alt true 1 (.alt true 3 (.alt true 4 (.alt true 5 (.alt true 6 (.alt true 7 .fin .stop) .stop) .stop) (.alt false 5 (.alt true 4 (.alt true 6 (.alt true 7 .fin .stop) .stop) .stop) .stop)) (.alt false 4 (.alt true 3 (.alt true 5 (.alt true 6 (.alt true 7 .fin .stop) .stop) .stop) (.alt false 5 (.alt true 3 (.alt true 6 (.alt true 7 .fin .stop) .stop) .stop) .stop)) (.alt false 5 (.alt true 3 (.alt true 4 (.alt true 6 (.alt true 7 .fin .stop) .stop) .stop) (.alt false 4 (.alt true 3 (.alt true 6 (.alt true 7 .fin .stop) .stop) .stop) .stop)) .stop))) (.alt false 4 (.alt true 1 (.alt true 3 (.alt true 5 (.alt true 6 (.alt true 7 .fin .stop) .stop) .stop) (.alt false 5 (.alt true 3 (.alt true 6 (.alt true 7 .fin .stop) .stop) .stop) .stop)) (.alt false 5 (.alt true 1 (.alt true 3 (.alt true 6 (.alt true 7 .fin .stop) .stop) .stop) .stop) .stop)) (.alt false 5 (.alt true 1 (.alt true 3 (.alt true 4 (.alt true 6 (.alt true 7 .fin .stop) .stop) .stop) (.alt false 4 (.alt true 3 (.alt true 6 (.alt true 7 .fin .stop) .stop) .stop) .stop)) (.alt false 4 (.alt true 1 (.alt true 3 (.alt true 6 (.alt true 7 .fin .stop) .stop) .stop) .stop) .stop)) .stop))))) (by kernel_rfl) (by kernel_rfl) (by kernel_rfl) ?_
    generalize hV : World.drew w4 = V0
    replace HF := Lib.hid (HF.out.dr hV)
    clear hV a0 a1 a2 af la b0 b1 b2 bf lb hold
    obtain ⟨a0, a1, a2, af, la⟩ := HF.out.i3 2
    obtain ⟨b0, b1, b2, bf, lb⟩ := HF.out.i3 1
    have hold := olds V0
    iterate 2 ((first|refine ST.q ?_|refine ST.m ?_|refine ST.n ?_|refine ST.v1 ?_ ST.stop|refine ST.k1 ?_ ST.stop);simp only [Act.put, pA, pB, pC])
    refine ST.c1 ?_ ?_
    · refine (kOwn_any A k c V0 (HF.out.iG 4) (fun g hg => by have := HC.out.2 g hg; omega) (by have := HC.out.1; omega)).mono ?_
      rintro e V1 ⟨v, rfl, ho, hb⟩
      obtain ⟨A3, c3, rfl, hc3⟩ := ho.form'
      have HO1 := Lib.hid ho
      have hz0 := hb.size
      replace HF := Lib.hid (HF.out.step hb)
      clear ho hb a0 a1 a2 af la b0 b1 b2 bf lb hold
      obtain ⟨a0, a1, a2, af, la⟩ := HF.out.i3 2
      obtain ⟨b0, b1, b2, bf, lb⟩ := HF.out.i3 1
      have hold := olds V1
      refine ⟨_, rfl, sb, ?_⟩
      simp only [Act.put, pA, pB, pC]
      refine ST.c1 ?_ ?_
      · refine (kOwn_any D n d V1 (HF.out.iG 3) (fun g hg => by have := HD.out.2 g hg; omega) (by have := HD.out.1; omega)).mono ?_
        rintro e V2 ⟨v, rfl, ho, hb⟩
        obtain ⟨D3, d3, rfl, hd3⟩ := ho.form'
        have HO5 := Lib.hid ho
        replace HO1 := Lib.hid (HO1.out.below hb)
        have hz1 := hb.size
        replace HF := Lib.hid (HF.out.step hb)
        clear ho hb a0 a1 a2 af la b0 b1 b2 bf lb hold
        obtain ⟨a0, a1, a2, af, la⟩ := HF.out.i3 2
        obtain ⟨b0, b1, b2, bf, lb⟩ := HF.out.i3 1
        have hold := olds V2
        refine ⟨_, rfl, sb, ?_⟩
        simp only [Act.put, pA, pB, pC]
        refine ST.v1 ?_ ?_
        · simp only [Act.put, pA, pB, pC]
          generalize hV : World.alloc V2 _ = V3
          have hb : Below V2.heap.size V2 V3 := by rw [← hV]; exact bl
          replace HO1 := Lib.hid (HO1.out.below hb)
          replace HO5 := Lib.hid (HO5.out.below hb)
          have hw6 := (HF.out.iB 0).size
          have hs6' : V2.heap.size + 1 ≤ V3.heap.size := by rw [← hV]; simp
          replace HF := Lib.hid (HF.out.al hV)
          clear hV hb a0 a1 a2 af la b0 b1 b2 bf lb hold
          obtain ⟨a0, a1, a2, af, la⟩ := HF.out.i3 3
          obtain ⟨b0, b1, b2, bf, lb⟩ := HF.out.i3 2
          have hold := olds V3
          refine ST.v1 ?_ ST.stop
          simp only [Act.put, pA, pB, pC]
          generalize hV : World.alloc V3 _ = V4
          have hb : Below V3.heap.size V3 V4 := by rw [← hV]; exact bl
          replace HO1 := Lib.hid (HO1.out.below hb)
          replace HO5 := Lib.hid (HO5.out.below hb)
          have hw7 := (HF.out.iB 1).size
          have hs7' : V3.heap.size + 1 ≤ V4.heap.size := by rw [← hV]; simp
          replace HF := Lib.hid (HF.out.al hV)
          clear hV hb a0 a1 a2 af la b0 b1 b2 bf lb hold
          obtain ⟨a0, a1, a2, af, la⟩ := HF.out.i3 4
          obtain ⟨b0, b1, b2, bf, lb⟩ := HF.out.i3 3
          have hold := olds V4
          obtain ⟨u0, u1, u2, uf, lu⟩ := HF.out.i3 0
          obtain ⟨t0, t1, t2, tf, lt⟩ := HF.out.i3 1
          have hn1 : (V2.heap.size = V3.heap.size) = False := by simp; omega
          have hn2 : (V3.heap.size = V2.heap.size) = False := by simp; omega
          have hn3 : (V2.heap.size = w.heap.size + 1) = False := by simp; omega
          iterate 2 ((first|refine ST.q ?_|refine ST.m ?_|refine ST.n ?_|refine ST.v1 ?_ ST.stop|refine ST.k1 ?_ ST.stop);simp only [Act.put, pA, pB, pC])
          simp only [ST]
          go_wp2
          go_meet
          exact ⟨_, A3, c3, _, D3, d3, rfl, rfl, hc3, hd3, Lib.hid (own_leaf HW4.out (HF.out.iB 2) hw6 hw7 (by omega) (HF.out.iX 1) (HF.out.iX 0) HO1.out HO5.out HC.out HD.out)⟩
        refine ST.v1 ?_ ST.stop
        simp only [Act.put, pA, pB, pC]
        generalize hV : World.alloc V2 _ = V3
        have hb : Below V2.heap.size V2 V3 := by rw [← hV]; exact bl
        replace HO1 := Lib.hid (HO1.out.below hb)
        replace HO5 := Lib.hid (HO5.out.below hb)
        have hw7 := (HF.out.iB 0).size
        have hs7' : V2.heap.size + 1 ≤ V3.heap.size := by rw [← hV]; simp
        replace HF := Lib.hid (HF.out.al hV)
        clear hV hb a0 a1 a2 af la b0 b1 b2 bf lb hold
        obtain ⟨a0, a1, a2, af, la⟩ := HF.out.i3 3
        obtain ⟨b0, b1, b2, bf, lb⟩ := HF.out.i3 2
        have hold := olds V3
        refine ST.v1 ?_ ST.stop
        simp only [Act.put, pA, pB, pC]
        generalize hV : World.alloc V3 _ = V4
        have hb : Below V3.heap.size V3 V4 := by rw [← hV]; exact bl
        replace HO1 := Lib.hid (HO1.out.below hb)
        replace HO5 := Lib.hid (HO5.out.below hb)
        have hw6 := (HF.out.iB 1).size
        have hs6' : V3.heap.size + 1 ≤ V4.heap.size := by rw [← hV]; simp
        replace HF := Lib.hid (HF.out.al hV)
        clear hV hb a0 a1 a2 af la b0 b1 b2 bf lb hold
        obtain ⟨a0, a1, a2, af, la⟩ := HF.out.i3 4
        obtain ⟨b0, b1, b2, bf, lb⟩ := HF.out.i3 3
        have hold := olds V4
        obtain ⟨t0, t1, t2, tf, lt⟩ := HF.out.i3 0
        obtain ⟨u0, u1, u2, uf, lu⟩ := HF.out.i3 1
        have hn1 : (V3.heap.size = V2.heap.size) = False := by simp; omega
        have hn2 : (V2.heap.size = V3.heap.size) = False := by simp; omega
        have hn3 : (V3.heap.size = w.heap.size + 1) = False := by simp; omega
        iterate 2 ((first|refine ST.q ?_|refine ST.m ?_|refine ST.n ?_|refine ST.v1 ?_ ST.stop|refine ST.k1 ?_ ST.stop);simp only [Act.put, pA, pB, pC])
        simp only [ST]
        go_wp2
        go_meet
        exact ⟨_, A3, c3, _, D3, d3, rfl, rfl, hc3, hd3, Lib.hid (own_leaf HW4.out (HF.out.iB 2) hw6 hw7 (by omega) (HF.out.iX 0) (HF.out.iX 1) HO1.out HO5.out HC.out HD.out)⟩
      refine ST.v1 ?_ ?_
      · simp only [Act.put, pA, pB, pC]
        generalize hV : World.alloc V1 _ = V2
        have hb : Below V1.heap.size V1 V2 := by rw [← hV]; exact bl
        replace HO1 := Lib.hid (HO1.out.below hb)
        have hw6 := (HF.out.iB 0).size
        have hs6' : V1.heap.size + 1 ≤ V2.heap.size := by rw [← hV]; simp
        replace HF := Lib.hid (HF.out.al hV)
        clear hV hb a0 a1 a2 af la b0 b1 b2 bf lb hold
        obtain ⟨a0, a1, a2, af, la⟩ := HF.out.i3 3
        obtain ⟨b0, b1, b2, bf, lb⟩ := HF.out.i3 2
        have hold := olds V2
        refine ST.c1 ?_ ?_
        · refine (kOwn_any D n d V2 (HF.out.iG 4) (fun g hg => by have := HD.out.2 g hg; omega) (by have := HD.out.1; omega)).mono ?_
          rintro e V3 ⟨v, rfl, ho, hb⟩
          obtain ⟨D3, d3, rfl, hd3⟩ := ho.form'
          have HO5 := Lib.hid ho
          replace HO1 := Lib.hid (HO1.out.below hb)
          have hz2 := hb.size
          replace HF := Lib.hid (HF.out.step hb)
          clear ho hb a0 a1 a2 af la b0 b1 b2 bf lb hold
          obtain ⟨a0, a1, a2, af, la⟩ := HF.out.i3 3
          obtain ⟨b0, b1, b2, bf, lb⟩ := HF.out.i3 2
          have hold := olds V3
          refine ⟨_, rfl, sb, ?_⟩
          simp only [Act.put, pA, pB, pC]
          refine ST.v1 ?_ ST.stop
          simp only [Act.put, pA, pB, pC]
          generalize hV : World.alloc V3 _ = V4
          have hb : Below V3.heap.size V3 V4 := by rw [← hV]; exact bl
          replace HO1 := Lib.hid (HO1.out.below hb)
          replace HO5 := Lib.hid (HO5.out.below hb)
          have hw7 := (HF.out.iB 1).size
          have hs7' : V3.heap.size + 1 ≤ V4.heap.size := by rw [← hV]; simp
          replace HF := Lib.hid (HF.out.al hV)
          clear hV hb a0 a1 a2 af la b0 b1 b2 bf lb hold
          obtain ⟨a0, a1, a2, af, la⟩ := HF.out.i3 4
          obtain ⟨b0, b1, b2, bf, lb⟩ := HF.out.i3 3
          have hold := olds V4
          obtain ⟨u0, u1, u2, uf, lu⟩ := HF.out.i3 0
          obtain ⟨t0, t1, t2, tf, lt⟩ := HF.out.i3 1
          have hn1 : (V1.heap.size = V3.heap.size) = False := by simp; omega
          have hn2 : (V3.heap.size = V1.heap.size) = False := by simp; omega
          have hn3 : (V1.heap.size = w.heap.size + 1) = False := by simp; omega
          iterate 2 ((first|refine ST.q ?_|refine ST.m ?_|refine ST.n ?_|refine ST.v1 ?_ ST.stop|refine ST.k1 ?_ ST.stop);simp only [Act.put, pA, pB, pC])
          simp only [ST]
          go_wp2
          go_meet
          exact ⟨_, A3, c3, _, D3, d3, rfl, rfl, hc3, hd3, Lib.hid (own_leaf HW4.out (HF.out.iB 2) hw6 hw7 (by omega) (HF.out.iX 1) (HF.out.iX 0) HO1.out HO5.out HC.out HD.out)⟩
        refine ST.v1 ?_ ST.stop
        simp only [Act.put, pA, pB, pC]
        generalize hV : World.alloc V2 _ = V3
        have hb : Below V2.heap.size V2 V3 := by rw [← hV]; exact bl
        replace HO1 := Lib.hid (HO1.out.below hb)
        have hw7 := (HF.out.iB 1).size
        have hs7' : V2.heap.size + 1 ≤ V3.heap.size := by rw [← hV]; simp
        replace HF := Lib.hid (HF.out.al hV)
        clear hV hb a0 a1 a2 af la b0 b1 b2 bf lb hold
        obtain ⟨a0, a1, a2, af, la⟩ := HF.out.i3 4
        obtain ⟨b0, b1, b2, bf, lb⟩ := HF.out.i3 3
        have hold := olds V3
        refine ST.c1 ?_ ST.stop
        refine (kOwn_any D n d V3 (HF.out.iG 5) (fun g hg => by have := HD.out.2 g hg; omega) (by have := HD.out.1; omega)).mono ?_
        rintro e V4 ⟨v, rfl, ho, hb⟩
        obtain ⟨D3, d3, rfl, hd3⟩ := ho.form'
        have HO5 := Lib.hid ho
        replace HO1 := Lib.hid (HO1.out.below hb)
        have hz3 := hb.size
        replace HF := Lib.hid (HF.out.step hb)
        clear ho hb a0 a1 a2 af la b0 b1 b2 bf lb hold
        obtain ⟨a0, a1, a2, af, la⟩ := HF.out.i3 4
        obtain ⟨b0, b1, b2, bf, lb⟩ := HF.out.i3 3
        have hold := olds V4
        obtain ⟨t0, t1, t2, tf, lt⟩ := HF.out.i3 1
        obtain ⟨u0, u1, u2, uf, lu⟩ := HF.out.i3 0
        have hn1 : (V1.heap.size = V2.heap.size) = False := by simp; omega
        have hn2 : (V2.heap.size = V1.heap.size) = False := by simp; omega
        have hn3 : (V1.heap.size = w.heap.size + 1) = False := by simp; omega
        refine ⟨_, rfl, sb, ?_⟩
        simp only [Act.put, pA, pB, pC]
        iterate 2 ((first|refine ST.q ?_|refine ST.m ?_|refine ST.n ?_|refine ST.v1 ?_ ST.stop|refine ST.k1 ?_ ST.stop);simp only [Act.put, pA, pB, pC])
        simp only [ST]
        go_wp2
        go_meet
        exact ⟨_, A3, c3, _, D3, d3, rfl, rfl, hc3, hd3, Lib.hid (own_leaf HW4.out (HF.out.iB 2) hw6 hw7 (by omega) (HF.out.iX 1) (HF.out.iX 0) HO1.out HO5.out HC.out HD.out)⟩
      refine ST.v1 ?_ ST.stop
      simp only [Act.put, pA, pB, pC]
      generalize hV : World.alloc V1 _ = V2
      have hb : Below V1.heap.size V1 V2 := by rw [← hV]; exact bl
      replace HO1 := Lib.hid (HO1.out.below hb)
      have hw7 := (HF.out.iB 0).size
      have hs7' : V1.heap.size + 1 ≤ V2.heap.size := by rw [← hV]; simp
      replace HF := Lib.hid (HF.out.al hV)
      clear hV hb a0 a1 a2 af la b0 b1 b2 bf lb hold
      obtain ⟨a0, a1, a2, af, la⟩ := HF.out.i3 3
      obtain ⟨b0, b1, b2, bf, lb⟩ := HF.out.i3 2
      have hold := olds V2
      refine ST.c1 ?_ ?_
      · refine (kOwn_any D n d V2 (HF.out.iG 4) (fun g hg => by have := HD.out.2 g hg; omega) (by have := HD.out.1; omega)).mono ?_
        rintro e V3 ⟨v, rfl, ho, hb⟩
        obtain ⟨D3, d3, rfl, hd3⟩ := ho.form'
        have HO5 := Lib.hid ho
        replace HO1 := Lib.hid (HO1.out.below hb)
        have hz2 := hb.size
        replace HF := Lib.hid (HF.out.step hb)
        clear ho hb a0 a1 a2 af la b0 b1 b2 bf lb hold
        obtain ⟨a0, a1, a2, af, la⟩ := HF.out.i3 3
        obtain ⟨b0, b1, b2, bf, lb⟩ := HF.out.i3 2
        have hold := olds V3
        refine ⟨_, rfl, sb, ?_⟩
        simp only [Act.put, pA, pB, pC]
        refine ST.v1 ?_ ST.stop
        simp only [Act.put, pA, pB, pC]
        generalize hV : World.alloc V3 _ = V4
        have hb : Below V3.heap.size V3 V4 := by rw [← hV]; exact bl
        replace HO1 := Lib.hid (HO1.out.below hb)
        replace HO5 := Lib.hid (HO5.out.below hb)
        have hw6 := (HF.out.iB 1).size
        have hs6' : V3.heap.size + 1 ≤ V4.heap.size := by rw [← hV]; simp
        replace HF := Lib.hid (HF.out.al hV)
        clear hV hb a0 a1 a2 af la b0 b1 b2 bf lb hold
        obtain ⟨a0, a1, a2, af, la⟩ := HF.out.i3 4
        obtain ⟨b0, b1, b2, bf, lb⟩ := HF.out.i3 3
        have hold := olds V4
        obtain ⟨t0, t1, t2, tf, lt⟩ := HF.out.i3 0
        obtain ⟨u0, u1, u2, uf, lu⟩ := HF.out.i3 1
        have hn1 : (V3.heap.size = V1.heap.size) = False := by simp; omega
        have hn2 : (V1.heap.size = V3.heap.size) = False := by simp; omega
        have hn3 : (V3.heap.size = w.heap.size + 1) = False := by simp; omega
        iterate 2 ((first|refine ST.q ?_|refine ST.m ?_|refine ST.n ?_|refine ST.v1 ?_ ST.stop|refine ST.k1 ?_ ST.stop);simp only [Act.put, pA, pB, pC])
        simp only [ST]
        go_wp2
        go_meet
        exact ⟨_, A3, c3, _, D3, d3, rfl, rfl, hc3, hd3, Lib.hid (own_leaf HW4.out (HF.out.iB 2) hw6 hw7 (by omega) (HF.out.iX 0) (HF.out.iX 1) HO1.out HO5.out HC.out HD.out)⟩
      refine ST.v1 ?_ ST.stop
      simp only [Act.put, pA, pB, pC]
      generalize hV : World.alloc V2 _ = V3
      have hb : Below V2.heap.size V2 V3 := by rw [← hV]; exact bl
      replace HO1 := Lib.hid (HO1.out.below hb)
      have hw6 := (HF.out.iB 1).size
      have hs6' : V2.heap.size + 1 ≤ V3.heap.size := by rw [← hV]; simp
      replace HF := Lib.hid (HF.out.al hV)
      clear hV hb a0 a1 a2 af la b0 b1 b2 bf lb hold
      obtain ⟨a0, a1, a2, af, la⟩ := HF.out.i3 4
      obtain ⟨b0, b1, b2, bf, lb⟩ := HF.out.i3 3
      have hold := olds V3
      refine ST.c1 ?_ ST.stop
      refine (kOwn_any D n d V3 (HF.out.iG 5) (fun g hg => by have := HD.out.2 g hg; omega) (by have := HD.out.1; omega)).mono ?_
      rintro e V4 ⟨v, rfl, ho, hb⟩
      obtain ⟨D3, d3, rfl, hd3⟩ := ho.form'
      have HO5 := Lib.hid ho
      replace HO1 := Lib.hid (HO1.out.below hb)
      have hz3 := hb.size
      replace HF := Lib.hid (HF.out.step hb)
      clear ho hb a0 a1 a2 af la b0 b1 b2 bf lb hold
      obtain ⟨a0, a1, a2, af, la⟩ := HF.out.i3 4
      obtain ⟨b0, b1, b2, bf, lb⟩ := HF.out.i3 3
      have hold := olds V4
      obtain ⟨t0, t1, t2, tf, lt⟩ := HF.out.i3 0
      obtain ⟨u0, u1, u2, uf, lu⟩ := HF.out.i3 1
      have hn1 : (V2.heap.size = V1.heap.size) = False := by simp; omega
      have hn2 : (V1.heap.size = V2.heap.size) = False := by simp; omega
      have hn3 : (V2.heap.size = w.heap.size + 1) = False := by simp; omega
      refine ⟨_, rfl, sb, ?_⟩
      simp only [Act.put, pA, pB, pC]
      iterate 2 ((first|refine ST.q ?_|refine ST.m ?_|refine ST.n ?_|refine ST.v1 ?_ ST.stop|refine ST.k1 ?_ ST.stop);simp only [Act.put, pA, pB, pC])
      simp only [ST]
      go_wp2
      go_meet
      exact ⟨_, A3, c3, _, D3, d3, rfl, rfl, hc3, hd3, Lib.hid (own_leaf HW4.out (HF.out.iB 2) hw6 hw7 (by omega) (HF.out.iX 0) (HF.out.iX 1) HO1.out HO5.out HC.out HD.out)⟩
    refine ST.v1 ?_ ?_
    · simp only [Act.put, pA, pB, pC]
      generalize hV : World.alloc V0 _ = V1
      have hb : Below V0.heap.size V0 V1 := by rw [← hV]; exact bl
      have hw6 := (HF.out.iB 0).size
      have hs6' : V0.heap.size + 1 ≤ V1.heap.size := by rw [← hV]; simp
      replace HF := Lib.hid (HF.out.al hV)
      clear hV hb a0 a1 a2 af la b0 b1 b2 bf lb hold
      obtain ⟨a0, a1, a2, af, la⟩ := HF.out.i3 3
      obtain ⟨b0, b1, b2, bf, lb⟩ := HF.out.i3 2
      have hold := olds V1
      refine ST.c1 ?_ ?_
      · refine (kOwn_any A k c V1 (HF.out.iG 5) (fun g hg => by have := HC.out.2 g hg; omega) (by have := HC.out.1; omega)).mono ?_
        rintro e V2 ⟨v, rfl, ho, hb⟩
        obtain ⟨A3, c3, rfl, hc3⟩ := ho.form'
        have HO1 := Lib.hid ho
        have hz1 := hb.size
        replace HF := Lib.hid (HF.out.step hb)
        clear ho hb a0 a1 a2 af la b0 b1 b2 bf lb hold
        obtain ⟨a0, a1, a2, af, la⟩ := HF.out.i3 3
        obtain ⟨b0, b1, b2, bf, lb⟩ := HF.out.i3 2
        have hold := olds V2
        refine ⟨_, rfl, sb, ?_⟩
        simp only [Act.put, pA, pB, pC]
        refine ST.c1 ?_ ?_
        · refine (kOwn_any D n d V2 (HF.out.iG 4) (fun g hg => by have := HD.out.2 g hg; omega) (by have := HD.out.1; omega)).mono ?_
          rintro e V3 ⟨v, rfl, ho, hb⟩
          obtain ⟨D3, d3, rfl, hd3⟩ := ho.form'
          have HO5 := Lib.hid ho
          replace HO1 := Lib.hid (HO1.out.below hb)
          have hz2 := hb.size
          replace HF := Lib.hid (HF.out.step hb)
          clear ho hb a0 a1 a2 af la b0 b1 b2 bf lb hold
          obtain ⟨a0, a1, a2, af, la⟩ := HF.out.i3 3
          obtain ⟨b0, b1, b2, bf, lb⟩ := HF.out.i3 2
          have hold := olds V3
          refine ⟨_, rfl, sb, ?_⟩
          simp only [Act.put, pA, pB, pC]
          refine ST.v1 ?_ ST.stop
          simp only [Act.put, pA, pB, pC]
          generalize hV : World.alloc V3 _ = V4
          have hb : Below V3.heap.size V3 V4 := by rw [← hV]; exact bl
          replace HO1 := Lib.hid (HO1.out.below hb)
          replace HO5 := Lib.hid (HO5.out.below hb)
          have hw7 := (HF.out.iB 1).size
          have hs7' : V3.heap.size + 1 ≤ V4.heap.size := by rw [← hV]; simp
          replace HF := Lib.hid (HF.out.al hV)
          clear hV hb a0 a1 a2 af la b0 b1 b2 bf lb hold
          obtain ⟨a0, a1, a2, af, la⟩ := HF.out.i3 4
          obtain ⟨b0, b1, b2, bf, lb⟩ := HF.out.i3 3
          have hold := olds V4
          obtain ⟨u0, u1, u2, uf, lu⟩ := HF.out.i3 0
          obtain ⟨t0, t1, t2, tf, lt⟩ := HF.out.i3 1
          have hn1 : (V0.heap.size = V3.heap.size) = False := by simp; omega
          have hn2 : (V3.heap.size = V0.heap.size) = False := by simp; omega
          have hn3 : (V0.heap.size = w.heap.size + 1) = False := by simp; omega
          iterate 2 ((first|refine ST.q ?_|refine ST.m ?_|refine ST.n ?_|refine ST.v1 ?_ ST.stop|refine ST.k1 ?_ ST.stop);simp only [Act.put, pA, pB, pC])
          simp only [ST]
          go_wp2
          go_meet
          exact ⟨_, A3, c3, _, D3, d3, rfl, rfl, hc3, hd3, Lib.hid (own_leaf HW4.out (HF.out.iB 2) hw6 hw7 (by omega) (HF.out.iX 1) (HF.out.iX 0) HO1.out HO5.out HC.out HD.out)⟩
        refine ST.v1 ?_ ST.stop
        simp only [Act.put, pA, pB, pC]
        generalize hV : World.alloc V2 _ = V3
        have hb : Below V2.heap.size V2 V3 := by rw [← hV]; exact bl
        replace HO1 := Lib.hid (HO1.out.below hb)
        have hw7 := (HF.out.iB 1).size
        have hs7' : V2.heap.size + 1 ≤ V3.heap.size := by rw [← hV]; simp
        replace HF := Lib.hid (HF.out.al hV)
        clear hV hb a0 a1 a2 af la b0 b1 b2 bf lb hold
        obtain ⟨a0, a1, a2, af, la⟩ := HF.out.i3 4
        obtain ⟨b0, b1, b2, bf, lb⟩ := HF.out.i3 3
        have hold := olds V3
        refine ST.c1 ?_ ST.stop
        refine (kOwn_any D n d V3 (HF.out.iG 5) (fun g hg => by have := HD.out.2 g hg; omega) (by have := HD.out.1; omega)).mono ?_
        rintro e V4 ⟨v, rfl, ho, hb⟩
        obtain ⟨D3, d3, rfl, hd3⟩ := ho.form'
        have HO5 := Lib.hid ho
        replace HO1 := Lib.hid (HO1.out.below hb)
        have hz3 := hb.size
        replace HF := Lib.hid (HF.out.step hb)
        clear ho hb a0 a1 a2 af la b0 b1 b2 bf lb hold
        obtain ⟨a0, a1, a2, af, la⟩ := HF.out.i3 4
        obtain ⟨b0, b1, b2, bf, lb⟩ := HF.out.i3 3
        have hold := olds V4
        obtain ⟨t0, t1, t2, tf, lt⟩ := HF.out.i3 1
        obtain ⟨u0, u1, u2, uf, lu⟩ := HF.out.i3 0
        have hn1 : (V0.heap.size = V2.heap.size) = False := by simp; omega
        have hn2 : (V2.heap.size = V0.heap.size) = False := by simp; omega
        have hn3 : (V0.heap.size = w.heap.size + 1) = False := by simp; omega
        refine ⟨_, rfl, sb, ?_⟩
        simp only [Act.put, pA, pB, pC]
        iterate 2 ((first|refine ST.q ?_|refine ST.m ?_|refine ST.n ?_|refine ST.v1 ?_ ST.stop|refine ST.k1 ?_ ST.stop);simp only [Act.put, pA, pB, pC])
        simp only [ST]
        go_wp2
        go_meet
        exact ⟨_, A3, c3, _, D3, d3, rfl, rfl, hc3, hd3, Lib.hid (own_leaf HW4.out (HF.out.iB 2) hw6 hw7 (by omega) (HF.out.iX 1) (HF.out.iX 0) HO1.out HO5.out HC.out HD.out)⟩
      refine ST.v1 ?_ ST.stop
      simp only [Act.put, pA, pB, pC]
      generalize hV : World.alloc V1 _ = V2
      have hb : Below V1.heap.size V1 V2 := by rw [← hV]; exact bl
      have hw7 := (HF.out.iB 1).size
      have hs7' : V1.heap.size + 1 ≤ V2.heap.size := by rw [← hV]; simp
      replace HF := Lib.hid (HF.out.al hV)
      clear hV hb a0 a1 a2 af la b0 b1 b2 bf lb hold
      obtain ⟨a0, a1, a2, af, la⟩ := HF.out.i3 4
      obtain ⟨b0, b1, b2, bf, lb⟩ := HF.out.i3 3
      have hold := olds V2
      refine ST.c1 ?_ ST.stop
      refine (kOwn_any A k c V2 (HF.out.iG 6) (fun g hg => by have := HC.out.2 g hg; omega) (by have := HC.out.1; omega)).mono ?_
      rintro e V3 ⟨v, rfl, ho, hb⟩
      obtain ⟨A3, c3, rfl, hc3⟩ := ho.form'
      have HO1 := Lib.hid ho
      have hz2 := hb.size
      replace HF := Lib.hid (HF.out.step hb)
      clear ho hb a0 a1 a2 af la b0 b1 b2 bf lb hold
      obtain ⟨a0, a1, a2, af, la⟩ := HF.out.i3 4
      obtain ⟨b0, b1, b2, bf, lb⟩ := HF.out.i3 3
      have hold := olds V3
      refine ⟨_, rfl, sb, ?_⟩
      simp only [Act.put, pA, pB, pC]
      refine ST.c1 ?_ ST.stop
      refine (kOwn_any D n d V3 (HF.out.iG 5) (fun g hg => by have := HD.out.2 g hg; omega) (by have := HD.out.1; omega)).mono ?_
      rintro e V4 ⟨v, rfl, ho, hb⟩
      obtain ⟨D3, d3, rfl, hd3⟩ := ho.form'
      have HO5 := Lib.hid ho
      replace HO1 := Lib.hid (HO1.out.below hb)
      have hz3 := hb.size
      replace HF := Lib.hid (HF.out.step hb)
      clear ho hb a0 a1 a2 af la b0 b1 b2 bf lb hold
      obtain ⟨a0, a1, a2, af, la⟩ := HF.out.i3 4
      obtain ⟨b0, b1, b2, bf, lb⟩ := HF.out.i3 3
      have hold := olds V4
      obtain ⟨t0, t1, t2, tf, lt⟩ := HF.out.i3 1
      obtain ⟨u0, u1, u2, uf, lu⟩ := HF.out.i3 0
      have hn1 : (V0.heap.size = V1.heap.size) = False := by simp; omega
      have hn2 : (V1.heap.size = V0.heap.size) = False := by simp; omega
      have hn3 : (V0.heap.size = w.heap.size + 1) = False := by simp; omega
      refine ⟨_, rfl, sb, ?_⟩
      simp only [Act.put, pA, pB, pC]
      iterate 2 ((first|refine ST.q ?_|refine ST.m ?_|refine ST.n ?_|refine ST.v1 ?_ ST.stop|refine ST.k1 ?_ ST.stop);simp only [Act.put, pA, pB, pC])
      simp only [ST]
      go_wp2
      go_meet
      exact ⟨_, A3, c3, _, D3, d3, rfl, rfl, hc3, hd3, Lib.hid (own_leaf HW4.out (HF.out.iB 2) hw6 hw7 (by omega) (HF.out.iX 1) (HF.out.iX 0) HO1.out HO5.out HC.out HD.out)⟩
    refine ST.v1 ?_ ST.stop
    simp only [Act.put, pA, pB, pC]
    generalize hV : World.alloc V0 _ = V1
    have hb : Below V0.heap.size V0 V1 := by rw [← hV]; exact bl
    have hw7 := (HF.out.iB 0).size
    have hs7' : V0.heap.size + 1 ≤ V1.heap.size := by rw [← hV]; simp
    replace HF := Lib.hid (HF.out.al hV)
    clear hV hb a0 a1 a2 af la b0 b1 b2 bf lb hold
    obtain ⟨a0, a1, a2, af, la⟩ := HF.out.i3 3
    obtain ⟨b0, b1, b2, bf, lb⟩ := HF.out.i3 2
    have hold := olds V1
    refine ST.c1 ?_ ?_
    · refine (kOwn_any A k c V1 (HF.out.iG 5) (fun g hg => by have := HC.out.2 g hg; omega) (by have := HC.out.1; omega)).mono ?_
      rintro e V2 ⟨v, rfl, ho, hb⟩
      obtain ⟨A3, c3, rfl, hc3⟩ := ho.form'
      have HO1 := Lib.hid ho
      have hz1 := hb.size
      replace HF := Lib.hid (HF.out.step hb)
      clear ho hb a0 a1 a2 af la b0 b1 b2 bf lb hold
      obtain ⟨a0, a1, a2, af, la⟩ := HF.out.i3 3
      obtain ⟨b0, b1, b2, bf, lb⟩ := HF.out.i3 2
      have hold := olds V2
      refine ⟨_, rfl, sb, ?_⟩
      simp only [Act.put, pA, pB, pC]
      refine ST.c1 ?_ ?_
      · refine (kOwn_any D n d V2 (HF.out.iG 4) (fun g hg => by have := HD.out.2 g hg; omega) (by have := HD.out.1; omega)).mono ?_
        rintro e V3 ⟨v, rfl, ho, hb⟩
        obtain ⟨D3, d3, rfl, hd3⟩ := ho.form'
        have HO5 := Lib.hid ho
        replace HO1 := Lib.hid (HO1.out.below hb)
        have hz2 := hb.size
        replace HF := Lib.hid (HF.out.step hb)
        clear ho hb a0 a1 a2 af la b0 b1 b2 bf lb hold
        obtain ⟨a0, a1, a2, af, la⟩ := HF.out.i3 3
        obtain ⟨b0, b1, b2, bf, lb⟩ := HF.out.i3 2
        have hold := olds V3
        refine ⟨_, rfl, sb, ?_⟩
        simp only [Act.put, pA, pB, pC]
        refine ST.v1 ?_ ST.stop
        simp only [Act.put, pA, pB, pC]
        generalize hV : World.alloc V3 _ = V4
        have hb : Below V3.heap.size V3 V4 := by rw [← hV]; exact bl
        replace HO1 := Lib.hid (HO1.out.below hb)
        replace HO5 := Lib.hid (HO5.out.below hb)
        have hw6 := (HF.out.iB 1).size
        have hs6' : V3.heap.size + 1 ≤ V4.heap.size := by rw [← hV]; simp
        replace HF := Lib.hid (HF.out.al hV)
        clear hV hb a0 a1 a2 af la b0 b1 b2 bf lb hold
        obtain ⟨a0, a1, a2, af, la⟩ := HF.out.i3 4
        obtain ⟨b0, b1, b2, bf, lb⟩ := HF.out.i3 3
        have hold := olds V4
        obtain ⟨t0, t1, t2, tf, lt⟩ := HF.out.i3 0
        obtain ⟨u0, u1, u2, uf, lu⟩ := HF.out.i3 1
        have hn1 : (V3.heap.size = V0.heap.size) = False := by simp; omega
        have hn2 : (V0.heap.size = V3.heap.size) = False := by simp; omega
        have hn3 : (V3.heap.size = w.heap.size + 1) = False := by simp; omega
        iterate 2 ((first|refine ST.q ?_|refine ST.m ?_|refine ST.n ?_|refine ST.v1 ?_ ST.stop|refine ST.k1 ?_ ST.stop);simp only [Act.put, pA, pB, pC])
        simp only [ST]
        go_wp2
        go_meet
        exact ⟨_, A3, c3, _, D3, d3, rfl, rfl, hc3, hd3, Lib.hid (own_leaf HW4.out (HF.out.iB 2) hw6 hw7 (by omega) (HF.out.iX 0) (HF.out.iX 1) HO1.out HO5.out HC.out HD.out)⟩
      refine ST.v1 ?_ ST.stop
      simp only [Act.put, pA, pB, pC]
      generalize hV : World.alloc V2 _ = V3
      have hb : Below V2.heap.size V2 V3 := by rw [← hV]; exact bl
      replace HO1 := Lib.hid (HO1.out.below hb)
      have hw6 := (HF.out.iB 1).size
      have hs6' : V2.heap.size + 1 ≤ V3.heap.size := by rw [← hV]; simp
      replace HF := Lib.hid (HF.out.al hV)
      clear hV hb a0 a1 a2 af la b0 b1 b2 bf lb hold
      obtain ⟨a0, a1, a2, af, la⟩ := HF.out.i3 4
      obtain ⟨b0, b1, b2, bf, lb⟩ := HF.out.i3 3
      have hold := olds V3
      refine ST.c1 ?_ ST.stop
      refine (kOwn_any D n d V3 (HF.out.iG 5) (fun g hg => by have := HD.out.2 g hg; omega) (by have := HD.out.1; omega)).mono ?_
      rintro e V4 ⟨v, rfl, ho, hb⟩
      obtain ⟨D3, d3, rfl, hd3⟩ := ho.form'
      have HO5 := Lib.hid ho
      replace HO1 := Lib.hid (HO1.out.below hb)
      have hz3 := hb.size
      replace HF := Lib.hid (HF.out.step hb)
      clear ho hb a0 a1 a2 af la b0 b1 b2 bf lb hold
      obtain ⟨a0, a1, a2, af, la⟩ := HF.out.i3 4
      obtain ⟨b0, b1, b2, bf, lb⟩ := HF.out.i3 3
      have hold := olds V4
      obtain ⟨t0, t1, t2, tf, lt⟩ := HF.out.i3 0
      obtain ⟨u0, u1, u2, uf, lu⟩ := HF.out.i3 1
      have hn1 : (V2.heap.size = V0.heap.size) = False := by simp; omega
      have hn2 : (V0.heap.size = V2.heap.size) = False := by simp; omega
      have hn3 : (V2.heap.size = w.heap.size + 1) = False := by simp; omega
      refine ⟨_, rfl, sb, ?_⟩
      simp only [Act.put, pA, pB, pC]
      iterate 2 ((first|refine ST.q ?_|refine ST.m ?_|refine ST.n ?_|refine ST.v1 ?_ ST.stop|refine ST.k1 ?_ ST.stop);simp only [Act.put, pA, pB, pC])
      simp only [ST]
      go_wp2
      go_meet
      exact ⟨_, A3, c3, _, D3, d3, rfl, rfl, hc3, hd3, Lib.hid (own_leaf HW4.out (HF.out.iB 2) hw6 hw7 (by omega) (HF.out.iX 0) (HF.out.iX 1) HO1.out HO5.out HC.out HD.out)⟩
    refine ST.v1 ?_ ST.stop
    simp only [Act.put, pA, pB, pC]
    generalize hV : World.alloc V1 _ = V2
    have hb : Below V1.heap.size V1 V2 := by rw [← hV]; exact bl
    have hw6 := (HF.out.iB 1).size
    have hs6' : V1.heap.size + 1 ≤ V2.heap.size := by rw [← hV]; simp
    replace HF := Lib.hid (HF.out.al hV)
    clear hV hb a0 a1 a2 af la b0 b1 b2 bf lb hold
    obtain ⟨a0, a1, a2, af, la⟩ := HF.out.i3 4
    obtain ⟨b0, b1, b2, bf, lb⟩ := HF.out.i3 3
    have hold := olds V2
    refine ST.c1 ?_ ST.stop
    refine (kOwn_any A k c V2 (HF.out.iG 6) (fun g hg => by have := HC.out.2 g hg; omega) (by have := HC.out.1; omega)).mono ?_
    rintro e V3 ⟨v, rfl, ho, hb⟩
    obtain ⟨A3, c3, rfl, hc3⟩ := ho.form'
    have HO1 := Lib.hid ho
    have hz2 := hb.size
    replace HF := Lib.hid (HF.out.step hb)
    clear ho hb a0 a1 a2 af la b0 b1 b2 bf lb hold
    obtain ⟨a0, a1, a2, af, la⟩ := HF.out.i3 4
    obtain ⟨b0, b1, b2, bf, lb⟩ := HF.out.i3 3
    have hold := olds V3
    refine ⟨_, rfl, sb, ?_⟩
    simp only [Act.put, pA, pB, pC]
    refine ST.c1 ?_ ST.stop
    refine (kOwn_any D n d V3 (HF.out.iG 5) (fun g hg => by have := HD.out.2 g hg; omega) (by have := HD.out.1; omega)).mono ?_
    rintro e V4 ⟨v, rfl, ho, hb⟩
    obtain ⟨D3, d3, rfl, hd3⟩ := ho.form'
    have HO5 := Lib.hid ho
    replace HO1 := Lib.hid (HO1.out.below hb)
    have hz3 := hb.size
    replace HF := Lib.hid (HF.out.step hb)
    clear ho hb a0 a1 a2 af la b0 b1 b2 bf lb hold
    obtain ⟨a0, a1, a2, af, la⟩ := HF.out.i3 4
    obtain ⟨b0, b1, b2, bf, lb⟩ := HF.out.i3 3
    have hold := olds V4
    obtain ⟨t0, t1, t2, tf, lt⟩ := HF.out.i3 0
    obtain ⟨u0, u1, u2, uf, lu⟩ := HF.out.i3 1
    have hn1 : (V1.heap.size = V0.heap.size) = False := by simp; omega
    have hn2 : (V0.heap.size = V1.heap.size) = False := by simp; omega
    have hn3 : (V1.heap.size = w.heap.size + 1) = False := by simp; omega
    refine ⟨_, rfl, sb, ?_⟩
    simp only [Act.put, pA, pB, pC]
    iterate 2 ((first|refine ST.q ?_|refine ST.m ?_|refine ST.n ?_|refine ST.v1 ?_ ST.stop|refine ST.k1 ?_ ST.stop);simp only [Act.put, pA, pB, pC])
    simp only [ST]
    go_wp2
    go_meet
    exact ⟨_, A3, c3, _, D3, d3, rfl, rfl, hc3, hd3, Lib.hid (own_leaf HW4.out (HF.out.iB 2) hw6 hw7 (by omega) (HF.out.iX 0) (HF.out.iX 1) HO1.out HO5.out HC.out HD.out)⟩
  case rest =>
  obtain ⟨bo, A3, c3, bp, D3, d3, rfl, rfl, hc3, hd3, HF⟩ := hcut
  rename World => w5
  clear HW4 a0 a1 a2 af la b0 b1 b2 bf lb hold
  obtain ⟨a0, a1, a2, af, la⟩ := HF.out.i3 5
  obtain ⟨b0, b1, b2, bf, lb⟩ := HF.out.i3 4
  have hold := olds w5
  have hs := SearchR_small c d most
  obtain ⟨⟨er, l⟩, hx⟩ : ∃ x, SearchR c d most = x := ⟨_, rfl⟩
  rw [hx] at hs
  have HX := Lib.hid (And.intro hx hs)
  have hc := rSearch19_any A D k n c d most w5 (HF.out.iG 7) hk (HF.out.iG 6) hn
  rw [hx] at hc
  clear hx hs
  go_wp2_with fail
  refine hc.mono ?_
  clear hc
  rintro e w6 ⟨A5, c5, rfl, hm, hb⟩
  dsimp only at hm ⊢
  replace HF := Lib.hid ((HF.out.step hb).push (.m A5 l) hm)
  clear hm hb
  clear a0 a1 a2 af la b0 b1 b2 bf lb hold
  obtain ⟨a0, a1, a2, af, la⟩ := HF.out.i3 2
  obtain ⟨b0, b1, b2, bf, lb⟩ := HF.out.i3 1
  have hold := olds w6
  have hc := Search_any A3 D3 c3 d3 c d most w6 (Lib.hid (HT.out.below (HF.out.iB 9))) (HF.out.iG 4) hc3 (HF.out.iG 3)
  rw [HX.out.1] at hc
  go_wp2_with fail
  refine hc.mono ?_
  clear hc
  rintro e w7 ⟨v6, rfl, ho, hb⟩
  obtain ⟨A6, c6, rfl, _⟩ := ho.form
  have hc := told_any w6.heap.size A6 A5 c6 c5 l l er er w7 ho (by have := HX.out.2.1; omega) (fun s hs => by have := HX.out.2.2 s hs; omega) ((HF.out.iM 0).bM hb) hb.size
  rw [decide_eq_true rfl, decide_eq_true rfl] at hc
  have HB := Lib.hid hb
  clear ho hb
  clear a0 a1 a2 af la b0 b1 b2 bf lb hold
  dsimp only
  go_wp2_with fail
  refine hc.mono ?_
  clear hc
  rintro e w8 ⟨rfl, hb⟩
  replace HF := Lib.hid (HF.out.step (HB.out.trans hb))
  clear hb HB
  obtain ⟨a0, a1, a2, af, la⟩ := HF.out.i3 2
  obtain ⟨b0, b1, b2, bf, lb⟩ := HF.out.i3 6
  have hold := olds w8
  have hc := kSame_any A3 A c3 k c c w8 (HF.out.iG 4) (HF.out.iG 8)
  rw [decide_eq_true rfl] at hc
  go_wp2_with fail
  refine hc.mono ?_
  clear hc
  rintro e w9 ⟨rfl, hb⟩
  replace HF := Lib.hid (HF.out.step hb)
  clear hb
  clear a0 a1 a2 af la b0 b1 b2 bf lb hold
  obtain ⟨a0, a1, a2, af, la⟩ := HF.out.i3 1
  obtain ⟨b0, b1, b2, bf, lb⟩ := HF.out.i3 5
  have hold := olds w9
  have hc := kSame_any D3 D d3 n d d w9 (HF.out.iG 3) (HF.out.iG 7)
  rw [decide_eq_true rfl] at hc
  go_wp2_with fail
  refine hc.mono ?_
  clear hc
  rintro e w10 ⟨rfl, hb⟩
  replace HF := Lib.hid (HF.out.step hb)
  clear hb
  clear a0 a1 a2 af la b0 b1 b2 bf lb hold
  go_wp2_with fail
  refine (awake_any _ (Lib.hid (HT.out.below (HF.out.iB 9)))).mono ?_
  rintro e w99 ⟨rfl, hb⟩
  replace HF := Lib.hid (HF.out.step hb)
  clear hb
  go_wp2
  go_ret
  exact ⟨rfl, HF.out.iB 9⟩
end Go.Proofs.YtfommmijojfdbaaGreatDoor
namespace Go.Proofs.YtfommmijojfdbaaGreatDoor
open Go.ChangeShapes Go.WideShapes Go.ChangeAt Go.WideMaps Go.WideElems Go.RowKit

set_option maxRecDepth 100000 in
theorem searches_lifted (os : Os) (started : os.Started) (H : Type) (enc : TypeId × Value → H) :
    ReturnsInHanded {} Tryz.checked os 7 .any (fun w args => (Rows.rulesSearchesSpec.pre enc Tryz.prog Tryz.f7 [] false w args ∧ laidMetH Tryz.prog laid3 w) ∧ sizedMet enc Tryz.prog Tryz.f7 (OpenSpec.ofChange Rows.rulesSearchesSpec) false w args)
      (Rows.rulesSearchesSpec.post enc Tryz.prog Tryz.f7 false true false false) := by
  refine returnsInHanded_of_change_and (C := Tryz.checked) (X := fun w _ => laidMetH Tryz.prog laid3 w) (fun _ _ _ hh h => h.of_heap hh) ownKnobs started (by kernel_rfl) Tryz.func7
    (ChangeSpec.witness_shaped (enc := enc) (C := Tryz.checked) (os := os) (X := fun w _ => laidMetH Tryz.prog laid3 w) false (World.doorLaid Tryz.prog 43 os) #[.agg #[.int .i64 0, .int .i64 0, .slice none 0 0], .agg #[.int .i64 0, .int .i64 0, .slice none 0 0], .int .i64 0] 8 rfl (World.shaped_of_RefB (by kernel_rfl) (by kernel_rfl)) (by kernel_rfl) (by kernel_rfl) (by kernel_rfl) (door_met os _)) ?_
  intro W base args ds gs before hval0 hW _ hsz0 hL _
  have hval : ∀ (j : Nat) t v, Tryz.f7.params[j]? = some t → args[j]? = some v → Value.okWide Tryz.prog W .any base t v := hval0
  have hsz : (DataW.weightsEach Tryz.prog (Tryz.f7.params.toList ++ Rows.rulesSearchesSpec.plain.varTypes Tryz.prog) (ds ++ gs)).all (· ≤ reachBytes) = true := hsz0
  have hW' := hW
  obtain ⟨p, q, hA0, hV, rfl, hfz, hnd⟩ := hW
  have hA : DataW.TrodAll enc Tryz.prog W 0 (fun _ => true) true Tryz.f7.params.toList args.toList ds p := hA0
  rw [Tryz.params7] at hA hval hsz
  obtain ⟨v0, v1, v2, d0, d1, d2, p0, p1, p2, rfl, rfl, rfl, h0, h1, h2⟩ := trodAll_three hA
  obtain ⟨rfl, rfl⟩ := trodVars_none hV
  have hT := laid_of hL
  clear hA0 hval0 hsz0 hA hV hL
  simp only [List.append_nil] at hW' hsz
  obtain ⟨c0, A0, k0, rfl, hk0, hr0⟩ := open_circuit (hval 0 _ v0 rfl rfl) h0 (fun n hn => by
    have := List.all_eq_true.1 hsz n (DataW.weights_mem_each (j := 0) rfl rfl n hn)
    simpa using this)
  obtain ⟨c1, A1, k1, rfl, hk1, hr1⟩ := open_circuit (hval 1 _ v1 rfl rfl) h1 (fun n hn => by
    have := List.all_eq_true.1 hsz n (DataW.weights_mem_each (j := 1) rfl rfl n hn)
    simpa using this)
  obtain ⟨c2, rfl, _⟩ := open_int Tryz.underlying3 (hval 2 _ v2 rfl rfl) h2
  have hlt : ∀ x ∈ p0 ++ p1 ++ p2, x.block < W.heap.size := fun x hx => by simpa using hW'.lt x hx
  refine (searches_law A0 A1 k0 k1 c0 c1 c2 W (Lib.hid hT) hr0 hk0 hr1 hk1).mono ?_
  rintro e W' ⟨rfl, hb⟩
  refine ⟨_, rfl, ⟨_, _, _, [], p0 ++ p1 ++ p2, [], hW', trodAll_mk1 (shut_bool Tryz.underlying4 _), (by rw [List.append_assoc]; exact trodAll_mk3 (Below.trod laidOut (by kernel_rfl) (of_decide_eq_true (by kernel_rfl)) h0 hb (fun x hx => hlt x (List.mem_append_left _ (List.mem_append_left _ hx)))) (Below.trod laidOut (by kernel_rfl) (of_decide_eq_true (by kernel_rfl)) h1 hb (fun x hx => hlt x (List.mem_append_left _ (List.mem_append_right _ hx)))) (Below.trod laidOut (by kernel_rfl) (of_decide_eq_true (by kernel_rfl)) h2 hb (fun x hx => hlt x (List.mem_append_right _ hx)))), rfl, hb.frame _, fun h => by cases h⟩⟩

set_option maxRecDepth 100000 in
theorem rulesSearches_holds : Rows.RulesSearchesSaid :=
  OpenClaim.holds_of_wide 7 Tryz.f7 rfl rfl rfl rfl rfl rfl rfl ⟨rfl, rfl, rfl, rfl, rfl⟩ rfl rfl rfl rfl rfl (by kernel_rfl) Tryz.func7 (by kernel_rfl)
    (of_decide_eq_true (by kernel_rfl)) (by unfold Func.isWrapper; first | (rw [if_pos (by decide +kernel)]; kernel_rfl) | (rw [if_neg (by decide +kernel)]; exact ⟨rfl, rfl⟩))
    (fun os started H enc _ => searches_lifted os started H enc)

theorem rulesSearchesCard_holds : Rows.RulesSearchesCardSaid :=
  Claim7.holds_tied_plain_at .later [] [.listed, .data, .data] true (true, "67e902701552530a16a6cbc8e64c29336a8ca23389839b399c9317c77b44cfa6") false
    rulesSearches_holds (fun _ h => by cases h) (by kernel_rfl) (fun _ h => by cases h) rulesSearches_row_tie rfl ⟨rfl, rfl⟩ (by kernel_rfl) rfl
    (fun f fn hf hfn => by
      obtain rfl : f = 7 := Option.some.inj ((show Tryz.prog.funcNamed "spoondrift/spoondriftlaw19.RulesSearches" = some 7 by kernel_rfl).symm.trans hf) |>.symm
      obtain rfl : fn = Tryz.f7 := (Option.some.inj (Tryz.func7.symm.trans hfn)).symm
      exact ⟨by kernel_rfl, fun j t ht => by
        rw [Tryz.params7] at ht
        have hm : t ∈ [24, 24, 3] := by simpa using Array.mem_of_getElem? ht
        have hall : ([24, 24, 3].all fun u => !Tryz.prog.wantsStandIn u) = true := by kernel_rfl
        exact (show Tryz.prog.wantsStandIn t = false by simpa using List.all_eq_true.1 hall t hm)⟩)
    (by kernel_rfl)
end Go.Proofs.YtfommmijojfdbaaGreatDoor
