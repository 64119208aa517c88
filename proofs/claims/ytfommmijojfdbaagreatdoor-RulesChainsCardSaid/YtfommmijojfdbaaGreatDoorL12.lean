/- The law of chains is walked. -/
import Derived.Test.YtfommmijojfdbaaGreatDoorAW
import Derived.Test.YtfommmijojfdbaaGreatDoorM1
import Derived.Test.YtfommmijojfdbaaGreatDoorM3
import Derived.Test.YtfommmijojfdbaaGreatDoorM4
import Derived.Test.YtfommmijojfdbaaGreatDoorSP
set_option linter.all false
namespace Go.Proofs.YtfommmijojfdbaaGreatDoor
open Go.RowKit

theorem App.setM4 {ti tm B B' : Nat} {W : World} {v : Value} {xs : List M} (h : App (EMo ti B) tm 4 B' W v xs) {b : Nat} {x0 x1 x2 u0 u1 u2 : Value} {T' : TypeId} (hb : W.heap[b]? = some (.cells #[x0, x1, x2] T' (0, 0))) (h1 : ti ≠ T') (h2 : tm ≠ T') :
    App (EMo ti B) tm 4 B' (((W.setCell ⟨b, 0, none⟩ u0).setCell ⟨b, 1, none⟩ u1).setCell ⟨b, 2, none⟩ u2) v xs :=
  ((h.setT hb h2 (EMo.setT hb h1)).setT (heap_setCell_same _ _ 0 _ _ _ hb) h2 (EMo.setT (heap_setCell_same _ _ 0 _ _ _ hb) h1)).setT (heap_setCell_same _ _ 1 _ _ _ (heap_setCell_same _ _ 0 _ _ _ hb)) h2 (EMo.setT (heap_setCell_same _ _ 1 _ _ _ (heap_setCell_same _ _ 0 _ _ _ hb)) h1)
theorem set3_ne {W : World} {b g : Nat} {u0 u1 u2 : Value} (h : g ≠ b) : (((W.setCell ⟨b, 0, none⟩ u0).setCell ⟨b, 1, none⟩ u1).setCell ⟨b, 2, none⟩ u2).heap[g]? = W.heap[g]? :=
  (heap_setCell_other _ _ _ _ h).trans ((heap_setCell_other _ _ _ _ h).trans (heap_setCell_other _ _ _ _ h))
theorem InvertR_small {c : C} {l : List M} (h : l.length ≤ 420 ∧ ∀ s ∈ l, s.wires.length ≤ 6) : (InvertR c l).2.length ≤ 420 ∧ ∀ s ∈ (InvertR c l).2, s.wires.length ≤ 6 := by
  unfold InvertR
  split
  · exact ⟨by simp, fun s hs => by cases hs⟩
  · refine ⟨by simpa using h.1, fun s hs => ?_⟩
    obtain ⟨x, hx, rfl⟩ := List.mem_map.1 hs
    exact h.2 x (List.mem_reverse.1 hx)
theorem FollowR_small (c : C) (l : List M) : (FollowR c l).2.1.gates.length ≤ 1000000 ∧ ∀ g ∈ (FollowR c l).2.1.gates, g.wires.length ≤ 1000000 := by
  obtain ⟨⟨er, cc, ph⟩, hx⟩ : ∃ x, FollowR c l = x := ⟨_, rfl⟩
  rw [hx]
  dsimp only
  by_cases h0 : er = 0
  · subst h0
    have hg := (FollowR_good hx).2.1
    exact ⟨by have := hg.len; omega, hg.wires⟩
  · have hz : cc = zeroC := by
      have key : ∀ (l : List M) (c : C) (p : Int), (followS c p l).1 ≠ 0 → (followS c p l).2.1 = zeroC := by
        intro l
        induction l with
        | nil => intro c p h; exact absurd rfl h
        | cons s l ih =>
          intro c p h
          unfold followS at h ⊢
          split
          · rename_i h1; rw [if_pos h1] at h; exact ih _ _ h
          · rfl
      have e : (FollowR c l).1 ≠ 0 → (FollowR c l).2.1 = zeroC := by
        unfold FollowR followR
        split
        · split
          · exact fun _ => rfl
          · exact key _ _ _
        · exact fun _ => rfl
      rw [hx] at e
      exact e h0
    rw [hz]
    exact ⟨by simp [zeroC], fun g hg => by simp [zeroC] at hg⟩

theorem App.keepI {α : Type} {E E' : World → α → List Value → Prop} {T sz B D B' : Nat} {w w' : World} {v : Value} {xs : List α} (h : App E T sz B' w v xs) (hk : KI B D w w') (hD : D ≤ B') (hE : ∀ x cs, E w x cs → E' w' x cs) : App E' T sz B' w' v xs := by
  obtain ⟨cs, ho, hr⟩ := h
  refine ⟨cs, own_heap ho fun k e => ?_, hr.imp hE⟩
  rcases ho.2 with ⟨rfl, _⟩ | ⟨g, cap, cur, rfl, hb, hh, _⟩
  · cases e
  · cases e
    exact hk.2 g (by omega) (blk_lt hh)
theorem chain_leaf {w4 V : World} {fs : List Fact} {b1 b2 B1 B3 B5 c3 c6 d3 : Nat} {c d : C} {l : List M} {A3 A6 D3 : Option Addr} {z0 z1 z2 y0 y1 y2 : Value} (HW : AllF w4 fs) (hb : Below w4.heap.size w4 V) (h1 : w4.heap.size ≤ b1) (h2 : w4.heap.size ≤ b2) (hne : b1 ≠ b2)
    (x6 : V.heap[b1]? = some (.cells #[z0, z1, z2] 24 (0, 0))) (x7 : V.heap[b2]? = some (.cells #[y0, y1, y2] 24 (0, 0))) (o1 : Own 3 55 B1 V (.slice A3 c.gates.length c3) c.gates) (o3 : App (EMo 3 B3) 27 4 B3 V (.slice A6 l.length c6) l) (o5 : Own 3 55 B5 V (.slice D3 d.gates.length d3) d.gates)
    (HC : c.gates.length ≤ 130 ∧ ∀ g ∈ c.gates, g.wires.length ≤ 6) (HD : d.gates.length ≤ 130 ∧ ∀ g ∈ d.gates, g.wires.length ≤ 6) (HM : l.length ≤ 420 ∧ ∀ s ∈ l, s.wires.length ≤ 6) :
    AllF ((((((V.setCell ⟨b1, 0, none⟩ (.int .i64 c.wires)).setCell ⟨b1, 1, none⟩ (.int .i64 c.bits)).setCell ⟨b1, 2, none⟩ (.slice A3 c.gates.length c3)).setCell ⟨b2, 0, none⟩ (.int .i64 d.wires)).setCell ⟨b2, 1, none⟩ (.int .i64 d.bits)).setCell ⟨b2, 2, none⟩ (.slice D3 d.gates.length d3))
      (.x b2 #[.int .i64 d.wires, .int .i64 d.bits, .slice D3 d.gates.length d3] 24 :: .x b1 #[.int .i64 c.wires, .int .i64 c.bits, .slice A3 c.gates.length c3] 24 :: .g D3 d.gates :: .m A6 l :: .g A3 c.gates :: fs) := by
  have k7 := (set3_ne (u0 := .int .i64 c.wires) (u1 := .int .i64 c.bits) (u2 := .slice A3 c.gates.length c3) (Ne.symm hne)).trans x7
  have hbF := (((((hb.setCell (p := ⟨b1, 0, none⟩) h1 (.int .i64 c.wires)).setCell (p := ⟨b1, 1, none⟩) h1 (.int .i64 c.bits)).setCell (p := ⟨b1, 2, none⟩) h1 (.slice A3 c.gates.length c3)).setCell (p := ⟨b2, 0, none⟩) h2 (.int .i64 d.wires)).setCell (p := ⟨b2, 1, none⟩) h2 (.int .i64 d.bits)).setCell (p := ⟨b2, 2, none⟩) h2 (.slice D3 d.gates.length d3)
  have o1' := (o1.setT3 (u0 := .int .i64 c.wires) (u1 := .int .i64 c.bits) (u2 := .slice A3 c.gates.length c3) x6 (by decide) (by decide)).setT3 (u0 := .int .i64 d.wires) (u1 := .int .i64 d.bits) (u2 := .slice D3 d.gates.length d3) k7 (by decide) (by decide)
  have o5' := (o5.setT3 (u0 := .int .i64 c.wires) (u1 := .int .i64 c.bits) (u2 := .slice A3 c.gates.length c3) x6 (by decide) (by decide)).setT3 (u0 := .int .i64 d.wires) (u1 := .int .i64 d.bits) (u2 := .slice D3 d.gates.length d3) k7 (by decide) (by decide)
  have o3' := (o3.setM4 (u0 := .int .i64 c.wires) (u1 := .int .i64 c.bits) (u2 := .slice A3 c.gates.length c3) x6 (by decide) (by decide)).setM4 (u0 := .int .i64 d.wires) (u1 := .int .i64 d.bits) (u2 := .slice D3 d.gates.length d3) k7 (by decide) (by decide)
  obtain ⟨A9, c9, e9, _, r3⟩ := o3'.rdM (by have := HM.1; omega) (fun s hs => by have := HM.2 s hs; omega)
  cases e9
  exact (((((HW.step hbF).push (.g A3 c.gates) (o1'.rG (by have := HC.1; omega) fun g hg => by have := HC.2 g hg; omega)).push (.m A6 l) r3).push (.g D3 d.gates) (o5'.rG (by have := HD.1; omega) fun g hg => by have := HD.2 g hg; omega)).push (.x b1 _ _) ((set3_ne hne).trans (set3 x6))).push (.x b2 _ _) (set3 k7)
set_option maxRecDepth 1000000 in
set_option maxHeartbeats 16000000 in
theorem chains_law (A B D : Option Addr) (k m n : Nat) (c d : C) (l : List M) (w : World) (HT : Hid (Laid w)) (h : RdG w A c.gates) (hk : c.gates.length ≤ k) (h' : RdM w B l) (h'' : RdG w D d.gates) (hn : d.gates.length ≤ n) :
    Calls Tryz.prog 5 #[.agg #[.int .i64 c.wires, .int .i64 c.bits, .slice A c.gates.length k], .slice B l.length m, .agg #[.int .i64 d.wires, .int .i64 d.bits, .slice D d.gates.length n]] w fun e w' => e = .returned (.bool true) ∧ Below w.heap.size w w' := by
  have HF := Lib.hid ((((AllF.nil w).push (.bel w) (Below.refl _ _)).push (.g A c.gates) h).push (.g D d.gates) h'' |>.push (.m B l) h')
  clear h h' h''
  go_enter Tryz.func5, Tryz.ntmps5
  go_upto_region 1 with fail
  generalize hV : World.alloc (World.alloc w _) _ = W1
  replace HF := Lib.hid (HF.out.al2 hV)
  clear hV
  obtain ⟨a0, a1, a2, af, la⟩ := HF.out.i3 1
  obtain ⟨b0, b1, b2, bf, lb⟩ := HF.out.i3 0
  have hold := olds W1
  obtain ⟨q, hq⟩ : ∃ q, greatC c = q := ⟨_, rfl⟩
  have hg := Great_any A k c W1 (HF.out.iG 4)
  rw [hq] at hg
  go_wp2_with fail
  refine hg.mono ?_
  clear hg
  rintro e w2 ⟨rfl, hb⟩
  replace HF := Lib.hid (HF.out.step hb)
  clear hb a0 a1 a2 af la b0 b1 b2 bf lb hold
  obtain ⟨a0, a1, a2, af, la⟩ := HF.out.i3 1
  obtain ⟨b0, b1, b2, bf, lb⟩ := HF.out.i3 0
  have hold := olds w2
  cases q with
  | true =>
    clear hq
    go_wp2_with fail
    refine (awake_any _ (Lib.hid (HT.out.below (HF.out.iB 5)))).mono ?_
    rintro e w99 ⟨rfl, hb⟩
    replace HF := Lib.hid (HF.out.step hb)
    clear hb
    go_wp2
    go_ret
    exact ⟨rfl, HF.out.iB 5⟩
  | false =>
  have HC := Lib.hid (greatC_no hq)
  clear hq
  obtain ⟨q, hq⟩ : ∃ q, greatC d = q := ⟨_, rfl⟩
  have hg := Great_any D n d w2 (HF.out.iG 3)
  rw [hq] at hg
  go_wp2_with fail
  refine hg.mono ?_
  clear hg
  rintro e w3 ⟨rfl, hb⟩
  replace HF := Lib.hid (HF.out.step hb)
  clear hb a0 a1 a2 af la b0 b1 b2 bf lb hold
  obtain ⟨a0, a1, a2, af, la⟩ := HF.out.i3 1
  obtain ⟨b0, b1, b2, bf, lb⟩ := HF.out.i3 0
  have hold := olds w3
  cases q with
  | true =>
    clear hq
    go_wp2_with fail
    refine (awake_any _ (Lib.hid (HT.out.below (HF.out.iB 5)))).mono ?_
    rintro e w99 ⟨rfl, hb⟩
    replace HF := Lib.hid (HF.out.step hb)
    clear hb
    go_wp2
    go_ret
    exact ⟨rfl, HF.out.iB 5⟩
  | false =>
  have HD := Lib.hid (greatC_no hq)
  clear hq
  obtain ⟨q, hq⟩ : ∃ q, greatM l = q := ⟨_, rfl⟩
  have hg := great_any B l.length m l w3 (HF.out.iM 2) rfl
  rw [hq] at hg
  go_wp2_with fail
  refine hg.mono ?_
  clear hg
  rintro e w4 ⟨rfl, hb⟩
  replace HF := Lib.hid (HF.out.step hb)
  clear hb a0 a1 a2 af la b0 b1 b2 bf lb hold
  obtain ⟨a0, a1, a2, af, la⟩ := HF.out.i3 1
  obtain ⟨b0, b1, b2, bf, lb⟩ := HF.out.i3 0
  have hold := olds w4
  cases q with
  | true =>
    clear hq
    go_wp2_with fail
    refine (awake_any _ (Lib.hid (HT.out.below (HF.out.iB 5)))).mono ?_
    rintro e w99 ⟨rfl, hb⟩
    replace HF := Lib.hid (HF.out.step hb)
    clear hb
    go_wp2
    go_ret
    exact ⟨rfl, HF.out.iB 5⟩
  | false =>
  have HM := Lib.hid (greatM_no hq)
  clear hq
  go_upto_region 3 with fail
  have HW4 := Lib.hid HF.out
  have hlw : w.heap.size + 1 < w4.heap.size := lb
  replace HF := Lib.hid (HF.out.push (.bel w4) (Below.refl _ _))
  go_cut [7, 8, 9] (fun p st q wx => ∃ bo A3 c3 A6 c6 bp D3 d3, p = .pointer (some ⟨bo, 0, none⟩) ∧ st = .slice A6 l.length c6 ∧ q = .pointer (some ⟨bp, 0, none⟩) ∧ c.gates.length ≤ c3 ∧ d.gates.length ≤ d3 ∧ Hid (AllF wx [.x bp #[.int .i64 d.wires, .int .i64 d.bits, .slice D3 d.gates.length d3] 24, .x bo #[.int .i64 c.wires, .int .i64 c.bits, .slice A3 c.gates.length c3] 24, .g D3 d.gates, .m A6 l, .g A3 c.gates, .x (w.heap.size + 1) #[.int .i64 d.wires, .int .i64 d.bits, .slice D d.gates.length n] 24, .x w.heap.size #[.int .i64 c.wires, .int .i64 c.bits, .slice A c.gates.length k] 24, .m B l, .g D d.gates, .g A c.gates, .bel w]))
  case first =>
    refine wp_region_st (by kernel_rfl) (.op 0 (.op 2 (.op 4 (.alt true 1 (.alt true 3 (.alt true 5 (.alt true 6 (.alt true 7 (.alt true 8 (.op 9 (.alt true 10 .fin .stop)) .stop) .stop) (.alt false 7 (.alt true 6 (.alt true 8 (.op 9 (.alt true 10 .fin .stop)) .stop) .stop) .stop)) (.alt false 6 (.alt true 5 (.alt true 7 (.alt true 8 (.op 9 (.alt true 10 .fin .stop)) .stop) .stop) (.alt false 7 (.alt true 5 (.alt true 8 (.op 9 (.alt true 10 .fin .stop)) .stop) .stop) .stop)) (.alt false 7 (.alt true 5 (.alt true 6 (.alt true 8 (.op 9 (.alt true 10 .fin .stop)) .stop) .stop) (.alt false 6 (.alt true 5 (.alt true 8 (.op 9 (.alt true 10 .fin .stop)) .stop) .stop) .stop)) .stop))) (.alt false 6 (.alt true 3 (.alt true 5 (.alt true 7 (.alt true 8 (.op 9 (.alt true 10 .fin .stop)) .stop) .stop) (.alt false 7 (.alt true 5 (.alt true 8 (.op 9 (.alt true 10 .fin .stop)) .stop) .stop) .stop)) (.alt false 7 (.alt true 3 (.alt true 5 (.alt true 8 (.op 9 (.alt true 10 .fin .stop)) .stop) .stop) .stop) .stop)) (.alt false 7 (.alt true 3 (.alt true 5 (.alt true 6 (.alt true 8 (.op 9 (.alt true 10 .fin .stop)) .stop) .stop) (.alt false 6 (.alt true 5 (.alt true 8 (.op 9 (.alt true 10 .fin .stop)) .stop) .stop) .stop)) (.alt false 6 (.alt true 3 (.alt true 5 (.alt true 8 (.op 9 (.alt true 10 .fin .stop)) .stop) .stop) .stop) .stop)) .stop))) (.alt false 6 (.alt true 1 (.alt true 3 (.alt true 5 (.alt true 7 (.alt true 8 (.op 9 (.alt true 10 .fin .stop)) .stop) .stop) (.alt false 7 (.alt true 5 (.alt true 8 (.op 9 (.alt true 10 .fin .stop)) .stop) .stop) .stop)) (.alt false 7 (.alt true 3 (.alt true 5 (.alt true 8 (.op 9 (.alt true 10 .fin .stop)) .stop) .stop) .stop) .stop)) (.alt false 7 (.alt true 1 (.alt true 3 (.alt true 5 (.alt true 8 (.op 9 (.alt true 10 .fin .stop)) .stop) .stop) .stop) .stop) .stop)) (.alt false 7 (.alt true 1 (.alt true 3 (.alt true 5 (.alt true 6 (.alt true 8 (.op 9 (.alt true 10 .fin .stop)) .stop) .stop) (.alt false 6 (.alt true 5 (.alt true 8 (.op 9 (.alt true 10 .fin .stop)) .stop) .stop) .stop)) (.alt false 6 (.alt true 3 (.alt true 5 (.alt true 8 (.op 9 (.alt true 10 .fin .stop)) .stop) .stop) .stop) .stop)) (.alt false 6 (.alt true 1 (.alt true 3 (.alt true 5 (.alt true 8 (.op 9 (.alt true 10 .fin .stop)) .stop) .stop) .stop) .stop) .stop)) .stop)))))) (by kernel_rfl) (by kernel_rfl) (by kernel_rfl) ?_
    generalize hV : World.drew w4 = V0
    replace HF := Lib.hid (HF.out.dr hV)
    clear hV a0 a1 a2 af la b0 b1 b2 bf lb hold
    obtain ⟨a0, a1, a2, af, la⟩ := HF.out.i3 2
    obtain ⟨b0, b1, b2, bf, lb⟩ := HF.out.i3 1
    have hold := olds V0
    iterate 3 ((first|refine ST.q ?_|refine ST.m ?_|refine ST.n ?_|refine ST.v1 ?_ ST.stop|refine ST.k1 ?_ ST.stop);simp only [Act.put, pA, pB, pC])
    refine ST.c1 ?_ ?_
    · refine (kOwn_any A k c V0 (HF.out.iG 5) (fun g hg => by have := HC.out.2 g hg; omega) (by have := HC.out.1; omega)).mono ?_
      rintro e V1 ⟨v, rfl, ho, hb⟩
      obtain ⟨A3, c3, rfl, hc3⟩ := ho.form'
      have HO1 := Lib.hid ho
      have hz0 := hb.size
      replace HF := Lib.hid (HF.out.step hb)
      clear ho hb a0 a1 a2 af la b0 b1 b2 bf lb hold
      obtain ⟨a0, a1, a2, af, la⟩ := HF.out.i3 2
      obtain ⟨b0, b1, b2, bf, lb⟩ := HF.out.i3 1
      have hold := olds V1
      refine ⟨_, rfl, sb, ?_⟩
      simp only [Act.put, pA, pB, pC]
      refine ST.c1 ?_ ?_
      · refine (rOwnM_any B l.length m l V1 (HF.out.iM 3) rfl (fun g hg => by have := HM.out.2 g hg; omega) (by have := HM.out.1; omega)).mono ?_
        rintro e V2 ⟨v, rfl, ho, hb⟩
        obtain ⟨A6, c6, rfl, _⟩ := ho.form
        have HO3 := Lib.hid ho
        replace HO1 := Lib.hid (HO1.out.below hb)
        have hz1 := hb.size
        replace HF := Lib.hid (HF.out.step hb)
        clear ho hb a0 a1 a2 af la b0 b1 b2 bf lb hold
        obtain ⟨a0, a1, a2, af, la⟩ := HF.out.i3 2
        obtain ⟨b0, b1, b2, bf, lb⟩ := HF.out.i3 1
        have hold := olds V2
        refine ⟨_, rfl, sb, ?_⟩
        simp only [Act.put, pA, pB, pC]
        refine ST.c1 ?_ ?_
        · refine (kOwn_any D n d V2 (HF.out.iG 4) (fun g hg => by have := HD.out.2 g hg; omega) (by have := HD.out.1; omega)).mono ?_
          rintro e V3 ⟨v, rfl, ho, hb⟩
          obtain ⟨D3, d3, rfl, hd3⟩ := ho.form'
          have HO5 := Lib.hid ho
          replace HO1 := Lib.hid (HO1.out.below hb)
          replace HO3 := Lib.hid (HO3.out.below (EMo.stays _ _) hb)
          have hz2 := hb.size
          replace HF := Lib.hid (HF.out.step hb)
          clear ho hb a0 a1 a2 af la b0 b1 b2 bf lb hold
          obtain ⟨a0, a1, a2, af, la⟩ := HF.out.i3 2
          obtain ⟨b0, b1, b2, bf, lb⟩ := HF.out.i3 1
          have hold := olds V3
          refine ⟨_, rfl, sb, ?_⟩
          simp only [Act.put, pA, pB, pC]
          refine ST.v1 ?_ ?_
          · simp only [Act.put, pA, pB, pC]
            generalize hV : World.alloc V3 _ = V4
            have hb : Below V3.heap.size V3 V4 := by rw [← hV]; exact bl
            replace HO1 := Lib.hid (HO1.out.below hb)
            replace HO3 := Lib.hid (HO3.out.below (EMo.stays _ _) hb)
            replace HO5 := Lib.hid (HO5.out.below hb)
            have hw6 := (HF.out.iB 0).size
            have hs6' : V3.heap.size + 1 ≤ V4.heap.size := by rw [← hV]; simp
            replace HF := Lib.hid (HF.out.al hV)
            clear hV hb a0 a1 a2 af la b0 b1 b2 bf lb hold
            obtain ⟨a0, a1, a2, af, la⟩ := HF.out.i3 3
            obtain ⟨b0, b1, b2, bf, lb⟩ := HF.out.i3 2
            have hold := olds V4
            refine ST.v1 ?_ ST.stop
            simp only [Act.put, pA, pB, pC]
            generalize hV : World.alloc V4 _ = V5
            have hb : Below V4.heap.size V4 V5 := by rw [← hV]; exact bl
            replace HO1 := Lib.hid (HO1.out.below hb)
            replace HO3 := Lib.hid (HO3.out.below (EMo.stays _ _) hb)
            replace HO5 := Lib.hid (HO5.out.below hb)
            have hw7 := (HF.out.iB 1).size
            have hs7' : V4.heap.size + 1 ≤ V5.heap.size := by rw [← hV]; simp
            replace HF := Lib.hid (HF.out.al hV)
            clear hV hb a0 a1 a2 af la b0 b1 b2 bf lb hold
            obtain ⟨a0, a1, a2, af, la⟩ := HF.out.i3 4
            obtain ⟨b0, b1, b2, bf, lb⟩ := HF.out.i3 3
            have hold := olds V5
            obtain ⟨u0, u1, u2, uf, lu⟩ := HF.out.i3 0
            obtain ⟨t0, t1, t2, tf, lt⟩ := HF.out.i3 1
            have hn1 : (V3.heap.size = V4.heap.size) = False := by simp; omega
            have hn3 : (V3.heap.size = w.heap.size + 1) = False := by simp; omega
            have hn2 : (V4.heap.size = V3.heap.size) = False := by simp; omega
            iterate 3 ((first|refine ST.q ?_|refine ST.m ?_|refine ST.n ?_|refine ST.v1 ?_ ST.stop|refine ST.k1 ?_ ST.stop);simp only [Act.put, pA, pB, pC])
            simp only [ST]
            go_wp2
            go_meet
            exact ⟨_, A3, c3, A6, c6, _, D3, d3, rfl, rfl, rfl, hc3, hd3, Lib.hid (chain_leaf HW4.out (HF.out.iB 2) hw6 hw7 (by omega) (HF.out.iX 1) (HF.out.iX 0) HO1.out HO3.out HO5.out HC.out HD.out HM.out)⟩
          refine ST.v1 ?_ ST.stop
          simp only [Act.put, pA, pB, pC]
          generalize hV : World.alloc V3 _ = V4
          have hb : Below V3.heap.size V3 V4 := by rw [← hV]; exact bl
          replace HO1 := Lib.hid (HO1.out.below hb)
          replace HO3 := Lib.hid (HO3.out.below (EMo.stays _ _) hb)
          replace HO5 := Lib.hid (HO5.out.below hb)
          have hw7 := (HF.out.iB 0).size
          have hs7' : V3.heap.size + 1 ≤ V4.heap.size := by rw [← hV]; simp
          replace HF := Lib.hid (HF.out.al hV)
          clear hV hb a0 a1 a2 af la b0 b1 b2 bf lb hold
          obtain ⟨a0, a1, a2, af, la⟩ := HF.out.i3 3
          obtain ⟨b0, b1, b2, bf, lb⟩ := HF.out.i3 2
          have hold := olds V4
          refine ST.v1 ?_ ST.stop
          simp only [Act.put, pA, pB, pC]
          generalize hV : World.alloc V4 _ = V5
          have hb : Below V4.heap.size V4 V5 := by rw [← hV]; exact bl
          replace HO1 := Lib.hid (HO1.out.below hb)
          replace HO3 := Lib.hid (HO3.out.below (EMo.stays _ _) hb)
          replace HO5 := Lib.hid (HO5.out.below hb)
          have hw6 := (HF.out.iB 1).size
          have hs6' : V4.heap.size + 1 ≤ V5.heap.size := by rw [← hV]; simp
          replace HF := Lib.hid (HF.out.al hV)
          clear hV hb a0 a1 a2 af la b0 b1 b2 bf lb hold
          obtain ⟨a0, a1, a2, af, la⟩ := HF.out.i3 4
          obtain ⟨b0, b1, b2, bf, lb⟩ := HF.out.i3 3
          have hold := olds V5
          obtain ⟨t0, t1, t2, tf, lt⟩ := HF.out.i3 0
          obtain ⟨u0, u1, u2, uf, lu⟩ := HF.out.i3 1
          have hn1 : (V4.heap.size = V3.heap.size) = False := by simp; omega
          have hn3 : (V4.heap.size = w.heap.size + 1) = False := by simp; omega
          have hn2 : (V3.heap.size = V4.heap.size) = False := by simp; omega
          iterate 3 ((first|refine ST.q ?_|refine ST.m ?_|refine ST.n ?_|refine ST.v1 ?_ ST.stop|refine ST.k1 ?_ ST.stop);simp only [Act.put, pA, pB, pC])
          simp only [ST]
          go_wp2
          go_meet
          exact ⟨_, A3, c3, A6, c6, _, D3, d3, rfl, rfl, rfl, hc3, hd3, Lib.hid (chain_leaf HW4.out (HF.out.iB 2) hw6 hw7 (by omega) (HF.out.iX 0) (HF.out.iX 1) HO1.out HO3.out HO5.out HC.out HD.out HM.out)⟩
        refine ST.v1 ?_ ?_
        · simp only [Act.put, pA, pB, pC]
          generalize hV : World.alloc V2 _ = V3
          have hb : Below V2.heap.size V2 V3 := by rw [← hV]; exact bl
          replace HO1 := Lib.hid (HO1.out.below hb)
          replace HO3 := Lib.hid (HO3.out.below (EMo.stays _ _) hb)
          have hw6 := (HF.out.iB 0).size
          have hs6' : V2.heap.size + 1 ≤ V3.heap.size := by rw [← hV]; simp
          replace HF := Lib.hid (HF.out.al hV)
          clear hV hb a0 a1 a2 af la b0 b1 b2 bf lb hold
          obtain ⟨a0, a1, a2, af, la⟩ := HF.out.i3 3
          obtain ⟨b0, b1, b2, bf, lb⟩ := HF.out.i3 2
          have hold := olds V3
          refine ST.c1 ?_ ?_
          · refine (kOwn_any D n d V3 (HF.out.iG 5) (fun g hg => by have := HD.out.2 g hg; omega) (by have := HD.out.1; omega)).mono ?_
            rintro e V4 ⟨v, rfl, ho, hb⟩
            obtain ⟨D3, d3, rfl, hd3⟩ := ho.form'
            have HO5 := Lib.hid ho
            replace HO1 := Lib.hid (HO1.out.below hb)
            replace HO3 := Lib.hid (HO3.out.below (EMo.stays _ _) hb)
            have hz3 := hb.size
            replace HF := Lib.hid (HF.out.step hb)
            clear ho hb a0 a1 a2 af la b0 b1 b2 bf lb hold
            obtain ⟨a0, a1, a2, af, la⟩ := HF.out.i3 3
            obtain ⟨b0, b1, b2, bf, lb⟩ := HF.out.i3 2
            have hold := olds V4
            refine ⟨_, rfl, sb, ?_⟩
            simp only [Act.put, pA, pB, pC]
            refine ST.v1 ?_ ST.stop
            simp only [Act.put, pA, pB, pC]
            generalize hV : World.alloc V4 _ = V5
            have hb : Below V4.heap.size V4 V5 := by rw [← hV]; exact bl
            replace HO1 := Lib.hid (HO1.out.below hb)
            replace HO3 := Lib.hid (HO3.out.below (EMo.stays _ _) hb)
            replace HO5 := Lib.hid (HO5.out.below hb)
            have hw7 := (HF.out.iB 1).size
            have hs7' : V4.heap.size + 1 ≤ V5.heap.size := by rw [← hV]; simp
            replace HF := Lib.hid (HF.out.al hV)
            clear hV hb a0 a1 a2 af la b0 b1 b2 bf lb hold
            obtain ⟨a0, a1, a2, af, la⟩ := HF.out.i3 4
            obtain ⟨b0, b1, b2, bf, lb⟩ := HF.out.i3 3
            have hold := olds V5
            obtain ⟨u0, u1, u2, uf, lu⟩ := HF.out.i3 0
            obtain ⟨t0, t1, t2, tf, lt⟩ := HF.out.i3 1
            have hn1 : (V2.heap.size = V4.heap.size) = False := by simp; omega
            have hn3 : (V2.heap.size = w.heap.size + 1) = False := by simp; omega
            have hn2 : (V4.heap.size = V2.heap.size) = False := by simp; omega
            iterate 3 ((first|refine ST.q ?_|refine ST.m ?_|refine ST.n ?_|refine ST.v1 ?_ ST.stop|refine ST.k1 ?_ ST.stop);simp only [Act.put, pA, pB, pC])
            simp only [ST]
            go_wp2
            go_meet
            exact ⟨_, A3, c3, A6, c6, _, D3, d3, rfl, rfl, rfl, hc3, hd3, Lib.hid (chain_leaf HW4.out (HF.out.iB 2) hw6 hw7 (by omega) (HF.out.iX 1) (HF.out.iX 0) HO1.out HO3.out HO5.out HC.out HD.out HM.out)⟩
          refine ST.v1 ?_ ST.stop
          simp only [Act.put, pA, pB, pC]
          generalize hV : World.alloc V3 _ = V4
          have hb : Below V3.heap.size V3 V4 := by rw [← hV]; exact bl
          replace HO1 := Lib.hid (HO1.out.below hb)
          replace HO3 := Lib.hid (HO3.out.below (EMo.stays _ _) hb)
          have hw7 := (HF.out.iB 1).size
          have hs7' : V3.heap.size + 1 ≤ V4.heap.size := by rw [← hV]; simp
          replace HF := Lib.hid (HF.out.al hV)
          clear hV hb a0 a1 a2 af la b0 b1 b2 bf lb hold
          obtain ⟨a0, a1, a2, af, la⟩ := HF.out.i3 4
          obtain ⟨b0, b1, b2, bf, lb⟩ := HF.out.i3 3
          have hold := olds V4
          refine ST.c1 ?_ ST.stop
          refine (kOwn_any D n d V4 (HF.out.iG 6) (fun g hg => by have := HD.out.2 g hg; omega) (by have := HD.out.1; omega)).mono ?_
          rintro e V5 ⟨v, rfl, ho, hb⟩
          obtain ⟨D3, d3, rfl, hd3⟩ := ho.form'
          have HO5 := Lib.hid ho
          replace HO1 := Lib.hid (HO1.out.below hb)
          replace HO3 := Lib.hid (HO3.out.below (EMo.stays _ _) hb)
          have hz4 := hb.size
          replace HF := Lib.hid (HF.out.step hb)
          clear ho hb a0 a1 a2 af la b0 b1 b2 bf lb hold
          obtain ⟨a0, a1, a2, af, la⟩ := HF.out.i3 4
          obtain ⟨b0, b1, b2, bf, lb⟩ := HF.out.i3 3
          have hold := olds V5
          obtain ⟨t0, t1, t2, tf, lt⟩ := HF.out.i3 1
          obtain ⟨u0, u1, u2, uf, lu⟩ := HF.out.i3 0
          have hn1 : (V2.heap.size = V3.heap.size) = False := by simp; omega
          have hn3 : (V2.heap.size = w.heap.size + 1) = False := by simp; omega
          have hn2 : (V3.heap.size = V2.heap.size) = False := by simp; omega
          refine ⟨_, rfl, sb, ?_⟩
          simp only [Act.put, pA, pB, pC]
          iterate 3 ((first|refine ST.q ?_|refine ST.m ?_|refine ST.n ?_|refine ST.v1 ?_ ST.stop|refine ST.k1 ?_ ST.stop);simp only [Act.put, pA, pB, pC])
          simp only [ST]
          go_wp2
          go_meet
          exact ⟨_, A3, c3, A6, c6, _, D3, d3, rfl, rfl, rfl, hc3, hd3, Lib.hid (chain_leaf HW4.out (HF.out.iB 2) hw6 hw7 (by omega) (HF.out.iX 1) (HF.out.iX 0) HO1.out HO3.out HO5.out HC.out HD.out HM.out)⟩
        refine ST.v1 ?_ ST.stop
        simp only [Act.put, pA, pB, pC]
        generalize hV : World.alloc V2 _ = V3
        have hb : Below V2.heap.size V2 V3 := by rw [← hV]; exact bl
        replace HO1 := Lib.hid (HO1.out.below hb)
        replace HO3 := Lib.hid (HO3.out.below (EMo.stays _ _) hb)
        have hw7 := (HF.out.iB 0).size
        have hs7' : V2.heap.size + 1 ≤ V3.heap.size := by rw [← hV]; simp
        replace HF := Lib.hid (HF.out.al hV)
        clear hV hb a0 a1 a2 af la b0 b1 b2 bf lb hold
        obtain ⟨a0, a1, a2, af, la⟩ := HF.out.i3 3
        obtain ⟨b0, b1, b2, bf, lb⟩ := HF.out.i3 2
        have hold := olds V3
        refine ST.c1 ?_ ?_
        · refine (kOwn_any D n d V3 (HF.out.iG 5) (fun g hg => by have := HD.out.2 g hg; omega) (by have := HD.out.1; omega)).mono ?_
          rintro e V4 ⟨v, rfl, ho, hb⟩
          obtain ⟨D3, d3, rfl, hd3⟩ := ho.form'
          have HO5 := Lib.hid ho
          replace HO1 := Lib.hid (HO1.out.below hb)
          replace HO3 := Lib.hid (HO3.out.below (EMo.stays _ _) hb)
          have hz3 := hb.size
          replace HF := Lib.hid (HF.out.step hb)
          clear ho hb a0 a1 a2 af la b0 b1 b2 bf lb hold
          obtain ⟨a0, a1, a2, af, la⟩ := HF.out.i3 3
          obtain ⟨b0, b1, b2, bf, lb⟩ := HF.out.i3 2
          have hold := olds V4
          refine ⟨_, rfl, sb, ?_⟩
          simp only [Act.put, pA, pB, pC]
          refine ST.v1 ?_ ST.stop
          simp only [Act.put, pA, pB, pC]
          generalize hV : World.alloc V4 _ = V5
          have hb : Below V4.heap.size V4 V5 := by rw [← hV]; exact bl
          replace HO1 := Lib.hid (HO1.out.below hb)
          replace HO3 := Lib.hid (HO3.out.below (EMo.stays _ _) hb)
          replace HO5 := Lib.hid (HO5.out.below hb)
          have hw6 := (HF.out.iB 1).size
          have hs6' : V4.heap.size + 1 ≤ V5.heap.size := by rw [← hV]; simp
          replace HF := Lib.hid (HF.out.al hV)
          clear hV hb a0 a1 a2 af la b0 b1 b2 bf lb hold
          obtain ⟨a0, a1, a2, af, la⟩ := HF.out.i3 4
          obtain ⟨b0, b1, b2, bf, lb⟩ := HF.out.i3 3
          have hold := olds V5
          obtain ⟨t0, t1, t2, tf, lt⟩ := HF.out.i3 0
          obtain ⟨u0, u1, u2, uf, lu⟩ := HF.out.i3 1
          have hn1 : (V4.heap.size = V2.heap.size) = False := by simp; omega
          have hn3 : (V4.heap.size = w.heap.size + 1) = False := by simp; omega
          have hn2 : (V2.heap.size = V4.heap.size) = False := by simp; omega
          iterate 3 ((first|refine ST.q ?_|refine ST.m ?_|refine ST.n ?_|refine ST.v1 ?_ ST.stop|refine ST.k1 ?_ ST.stop);simp only [Act.put, pA, pB, pC])
          simp only [ST]
          go_wp2
          go_meet
          exact ⟨_, A3, c3, A6, c6, _, D3, d3, rfl, rfl, rfl, hc3, hd3, Lib.hid (chain_leaf HW4.out (HF.out.iB 2) hw6 hw7 (by omega) (HF.out.iX 0) (HF.out.iX 1) HO1.out HO3.out HO5.out HC.out HD.out HM.out)⟩
        refine ST.v1 ?_ ST.stop
        simp only [Act.put, pA, pB, pC]
        generalize hV : World.alloc V3 _ = V4
        have hb : Below V3.heap.size V3 V4 := by rw [← hV]; exact bl
        replace HO1 := Lib.hid (HO1.out.below hb)
        replace HO3 := Lib.hid (HO3.out.below (EMo.stays _ _) hb)
        have hw6 := (HF.out.iB 1).size
        have hs6' : V3.heap.size + 1 ≤ V4.heap.size := by rw [← hV]; simp
        replace HF := Lib.hid (HF.out.al hV)
        clear hV hb a0 a1 a2 af la b0 b1 b2 bf lb hold
        obtain ⟨a0, a1, a2, af, la⟩ := HF.out.i3 4
        obtain ⟨b0, b1, b2, bf, lb⟩ := HF.out.i3 3
        have hold := olds V4
        refine ST.c1 ?_ ST.stop
        refine (kOwn_any D n d V4 (HF.out.iG 6) (fun g hg => by have := HD.out.2 g hg; omega) (by have := HD.out.1; omega)).mono ?_
        rintro e V5 ⟨v, rfl, ho, hb⟩
        obtain ⟨D3, d3, rfl, hd3⟩ := ho.form'
        have HO5 := Lib.hid ho
        replace HO1 := Lib.hid (HO1.out.below hb)
        replace HO3 := Lib.hid (HO3.out.below (EMo.stays _ _) hb)
        have hz4 := hb.size
        replace HF := Lib.hid (HF.out.step hb)
        clear ho hb a0 a1 a2 af la b0 b1 b2 bf lb hold
        obtain ⟨a0, a1, a2, af, la⟩ := HF.out.i3 4
        obtain ⟨b0, b1, b2, bf, lb⟩ := HF.out.i3 3
        have hold := olds V5
        obtain ⟨t0, t1, t2, tf, lt⟩ := HF.out.i3 0
        obtain ⟨u0, u1, u2, uf, lu⟩ := HF.out.i3 1
        have hn1 : (V3.heap.size = V2.heap.size) = False := by simp; omega
        have hn3 : (V3.heap.size = w.heap.size + 1) = False := by simp; omega
        have hn2 : (V2.heap.size = V3.heap.size) = False := by simp; omega
        refine ⟨_, rfl, sb, ?_⟩
        simp only [Act.put, pA, pB, pC]
        iterate 3 ((first|refine ST.q ?_|refine ST.m ?_|refine ST.n ?_|refine ST.v1 ?_ ST.stop|refine ST.k1 ?_ ST.stop);simp only [Act.put, pA, pB, pC])
        simp only [ST]
        go_wp2
        go_meet
        exact ⟨_, A3, c3, A6, c6, _, D3, d3, rfl, rfl, rfl, hc3, hd3, Lib.hid (chain_leaf HW4.out (HF.out.iB 2) hw6 hw7 (by omega) (HF.out.iX 0) (HF.out.iX 1) HO1.out HO3.out HO5.out HC.out HD.out HM.out)⟩
      refine ST.v1 ?_ ?_
      · simp only [Act.put, pA, pB, pC]
        generalize hV : World.alloc V1 _ = V2
        have hb : Below V1.heap.size V1 V2 := by rw [← hV]; exact bl
        replace HO1 := Lib.hid (HO1.out.below hb)
        have hw6 := (HF.out.iB 0).size
        have hs6' : V1.heap.size + 1 ≤ V2.heap.size := by rw [← hV]; simp
        replace HF := Lib.hid (HF.out.al hV)
        clear hV hb a0 a1 a2 af la b0 b1 b2 bf lb hold
        obtain ⟨a0, a1, a2, af, la⟩ := HF.out.i3 3
        obtain ⟨b0, b1, b2, bf, lb⟩ := HF.out.i3 2
        have hold := olds V2
        refine ST.c1 ?_ ?_
        · refine (rOwnM_any B l.length m l V2 (HF.out.iM 4) rfl (fun g hg => by have := HM.out.2 g hg; omega) (by have := HM.out.1; omega)).mono ?_
          rintro e V3 ⟨v, rfl, ho, hb⟩
          obtain ⟨A6, c6, rfl, _⟩ := ho.form
          have HO3 := Lib.hid ho
          replace HO1 := Lib.hid (HO1.out.below hb)
          have hz2 := hb.size
          replace HF := Lib.hid (HF.out.step hb)
          clear ho hb a0 a1 a2 af la b0 b1 b2 bf lb hold
          obtain ⟨a0, a1, a2, af, la⟩ := HF.out.i3 3
          obtain ⟨b0, b1, b2, bf, lb⟩ := HF.out.i3 2
          have hold := olds V3
          refine ⟨_, rfl, sb, ?_⟩
          simp only [Act.put, pA, pB, pC]
          refine ST.c1 ?_ ?_
          · refine (kOwn_any D n d V3 (HF.out.iG 5) (fun g hg => by have := HD.out.2 g hg; omega) (by have := HD.out.1; omega)).mono ?_
            rintro e V4 ⟨v, rfl, ho, hb⟩
            obtain ⟨D3, d3, rfl, hd3⟩ := ho.form'
            have HO5 := Lib.hid ho
            replace HO1 := Lib.hid (HO1.out.below hb)
            replace HO3 := Lib.hid (HO3.out.below (EMo.stays _ _) hb)
            have hz3 := hb.size
            replace HF := Lib.hid (HF.out.step hb)
            clear ho hb a0 a1 a2 af la b0 b1 b2 bf lb hold
            obtain ⟨a0, a1, a2, af, la⟩ := HF.out.i3 3
            obtain ⟨b0, b1, b2, bf, lb⟩ := HF.out.i3 2
            have hold := olds V4
            refine ⟨_, rfl, sb, ?_⟩
            simp only [Act.put, pA, pB, pC]
            refine ST.v1 ?_ ST.stop
            simp only [Act.put, pA, pB, pC]
            generalize hV : World.alloc V4 _ = V5
            have hb : Below V4.heap.size V4 V5 := by rw [← hV]; exact bl
            replace HO1 := Lib.hid (HO1.out.below hb)
            replace HO3 := Lib.hid (HO3.out.below (EMo.stays _ _) hb)
            replace HO5 := Lib.hid (HO5.out.below hb)
            have hw7 := (HF.out.iB 1).size
            have hs7' : V4.heap.size + 1 ≤ V5.heap.size := by rw [← hV]; simp
            replace HF := Lib.hid (HF.out.al hV)
            clear hV hb a0 a1 a2 af la b0 b1 b2 bf lb hold
            obtain ⟨a0, a1, a2, af, la⟩ := HF.out.i3 4
            obtain ⟨b0, b1, b2, bf, lb⟩ := HF.out.i3 3
            have hold := olds V5
            obtain ⟨u0, u1, u2, uf, lu⟩ := HF.out.i3 0
            obtain ⟨t0, t1, t2, tf, lt⟩ := HF.out.i3 1
            have hn1 : (V1.heap.size = V4.heap.size) = False := by simp; omega
            have hn3 : (V1.heap.size = w.heap.size + 1) = False := by simp; omega
            have hn2 : (V4.heap.size = V1.heap.size) = False := by simp; omega
            iterate 3 ((first|refine ST.q ?_|refine ST.m ?_|refine ST.n ?_|refine ST.v1 ?_ ST.stop|refine ST.k1 ?_ ST.stop);simp only [Act.put, pA, pB, pC])
            simp only [ST]
            go_wp2
            go_meet
            exact ⟨_, A3, c3, A6, c6, _, D3, d3, rfl, rfl, rfl, hc3, hd3, Lib.hid (chain_leaf HW4.out (HF.out.iB 2) hw6 hw7 (by omega) (HF.out.iX 1) (HF.out.iX 0) HO1.out HO3.out HO5.out HC.out HD.out HM.out)⟩
          refine ST.v1 ?_ ST.stop
          simp only [Act.put, pA, pB, pC]
          generalize hV : World.alloc V3 _ = V4
          have hb : Below V3.heap.size V3 V4 := by rw [← hV]; exact bl
          replace HO1 := Lib.hid (HO1.out.below hb)
          replace HO3 := Lib.hid (HO3.out.below (EMo.stays _ _) hb)
          have hw7 := (HF.out.iB 1).size
          have hs7' : V3.heap.size + 1 ≤ V4.heap.size := by rw [← hV]; simp
          replace HF := Lib.hid (HF.out.al hV)
          clear hV hb a0 a1 a2 af la b0 b1 b2 bf lb hold
          obtain ⟨a0, a1, a2, af, la⟩ := HF.out.i3 4
          obtain ⟨b0, b1, b2, bf, lb⟩ := HF.out.i3 3
          have hold := olds V4
          refine ST.c1 ?_ ST.stop
          refine (kOwn_any D n d V4 (HF.out.iG 6) (fun g hg => by have := HD.out.2 g hg; omega) (by have := HD.out.1; omega)).mono ?_
          rintro e V5 ⟨v, rfl, ho, hb⟩
          obtain ⟨D3, d3, rfl, hd3⟩ := ho.form'
          have HO5 := Lib.hid ho
          replace HO1 := Lib.hid (HO1.out.below hb)
          replace HO3 := Lib.hid (HO3.out.below (EMo.stays _ _) hb)
          have hz4 := hb.size
          replace HF := Lib.hid (HF.out.step hb)
          clear ho hb a0 a1 a2 af la b0 b1 b2 bf lb hold
          obtain ⟨a0, a1, a2, af, la⟩ := HF.out.i3 4
          obtain ⟨b0, b1, b2, bf, lb⟩ := HF.out.i3 3
          have hold := olds V5
          obtain ⟨t0, t1, t2, tf, lt⟩ := HF.out.i3 1
          obtain ⟨u0, u1, u2, uf, lu⟩ := HF.out.i3 0
          have hn1 : (V1.heap.size = V3.heap.size) = False := by simp; omega
          have hn3 : (V1.heap.size = w.heap.size + 1) = False := by simp; omega
          have hn2 : (V3.heap.size = V1.heap.size) = False := by simp; omega
          refine ⟨_, rfl, sb, ?_⟩
          simp only [Act.put, pA, pB, pC]
          iterate 3 ((first|refine ST.q ?_|refine ST.m ?_|refine ST.n ?_|refine ST.v1 ?_ ST.stop|refine ST.k1 ?_ ST.stop);simp only [Act.put, pA, pB, pC])
          simp only [ST]
          go_wp2
          go_meet
          exact ⟨_, A3, c3, A6, c6, _, D3, d3, rfl, rfl, rfl, hc3, hd3, Lib.hid (chain_leaf HW4.out (HF.out.iB 2) hw6 hw7 (by omega) (HF.out.iX 1) (HF.out.iX 0) HO1.out HO3.out HO5.out HC.out HD.out HM.out)⟩
        refine ST.v1 ?_ ST.stop
        simp only [Act.put, pA, pB, pC]
        generalize hV : World.alloc V2 _ = V3
        have hb : Below V2.heap.size V2 V3 := by rw [← hV]; exact bl
        replace HO1 := Lib.hid (HO1.out.below hb)
        have hw7 := (HF.out.iB 1).size
        have hs7' : V2.heap.size + 1 ≤ V3.heap.size := by rw [← hV]; simp
        replace HF := Lib.hid (HF.out.al hV)
        clear hV hb a0 a1 a2 af la b0 b1 b2 bf lb hold
        obtain ⟨a0, a1, a2, af, la⟩ := HF.out.i3 4
        obtain ⟨b0, b1, b2, bf, lb⟩ := HF.out.i3 3
        have hold := olds V3
        refine ST.c1 ?_ ST.stop
        refine (rOwnM_any B l.length m l V3 (HF.out.iM 5) rfl (fun g hg => by have := HM.out.2 g hg; omega) (by have := HM.out.1; omega)).mono ?_
        rintro e V4 ⟨v, rfl, ho, hb⟩
        obtain ⟨A6, c6, rfl, _⟩ := ho.form
        have HO3 := Lib.hid ho
        replace HO1 := Lib.hid (HO1.out.below hb)
        have hz3 := hb.size
        replace HF := Lib.hid (HF.out.step hb)
        clear ho hb a0 a1 a2 af la b0 b1 b2 bf lb hold
        obtain ⟨a0, a1, a2, af, la⟩ := HF.out.i3 4
        obtain ⟨b0, b1, b2, bf, lb⟩ := HF.out.i3 3
        have hold := olds V4
        refine ⟨_, rfl, sb, ?_⟩
        simp only [Act.put, pA, pB, pC]
        refine ST.c1 ?_ ST.stop
        refine (kOwn_any D n d V4 (HF.out.iG 6) (fun g hg => by have := HD.out.2 g hg; omega) (by have := HD.out.1; omega)).mono ?_
        rintro e V5 ⟨v, rfl, ho, hb⟩
        obtain ⟨D3, d3, rfl, hd3⟩ := ho.form'
        have HO5 := Lib.hid ho
        replace HO1 := Lib.hid (HO1.out.below hb)
        replace HO3 := Lib.hid (HO3.out.below (EMo.stays _ _) hb)
        have hz4 := hb.size
        replace HF := Lib.hid (HF.out.step hb)
        clear ho hb a0 a1 a2 af la b0 b1 b2 bf lb hold
        obtain ⟨a0, a1, a2, af, la⟩ := HF.out.i3 4
        obtain ⟨b0, b1, b2, bf, lb⟩ := HF.out.i3 3
        have hold := olds V5
        obtain ⟨t0, t1, t2, tf, lt⟩ := HF.out.i3 1
        obtain ⟨u0, u1, u2, uf, lu⟩ := HF.out.i3 0
        have hn1 : (V1.heap.size = V2.heap.size) = False := by simp; omega
        have hn3 : (V1.heap.size = w.heap.size + 1) = False := by simp; omega
        have hn2 : (V2.heap.size = V1.heap.size) = False := by simp; omega
        refine ⟨_, rfl, sb, ?_⟩
        simp only [Act.put, pA, pB, pC]
        iterate 3 ((first|refine ST.q ?_|refine ST.m ?_|refine ST.n ?_|refine ST.v1 ?_ ST.stop|refine ST.k1 ?_ ST.stop);simp only [Act.put, pA, pB, pC])
        simp only [ST]
        go_wp2
        go_meet
        exact ⟨_, A3, c3, A6, c6, _, D3, d3, rfl, rfl, rfl, hc3, hd3, Lib.hid (chain_leaf HW4.out (HF.out.iB 2) hw6 hw7 (by omega) (HF.out.iX 1) (HF.out.iX 0) HO1.out HO3.out HO5.out HC.out HD.out HM.out)⟩
      refine ST.v1 ?_ ST.stop
      simp only [Act.put, pA, pB, pC]
      generalize hV : World.alloc V1 _ = V2
      have hb : Below V1.heap.size V1 V2 := by rw [← hV]; exact bl
      replace HO1 := Lib.hid (HO1.out.below hb)
      have hw7 := (HF.out.iB 0).size
      have hs7' : V1.heap.size + 1 ≤ V2.heap.size := by rw [← hV]; simp
      replace HF := Lib.hid (HF.out.al hV)
      clear hV hb a0 a1 a2 af la b0 b1 b2 bf lb hold
      obtain ⟨a0, a1, a2, af, la⟩ := HF.out.i3 3
      obtain ⟨b0, b1, b2, bf, lb⟩ := HF.out.i3 2
      have hold := olds V2
      refine ST.c1 ?_ ?_
      · refine (rOwnM_any B l.length m l V2 (HF.out.iM 4) rfl (fun g hg => by have := HM.out.2 g hg; omega) (by have := HM.out.1; omega)).mono ?_
        rintro e V3 ⟨v, rfl, ho, hb⟩
        obtain ⟨A6, c6, rfl, _⟩ := ho.form
        have HO3 := Lib.hid ho
        replace HO1 := Lib.hid (HO1.out.below hb)
        have hz2 := hb.size
        replace HF := Lib.hid (HF.out.step hb)
        clear ho hb a0 a1 a2 af la b0 b1 b2 bf lb hold
        obtain ⟨a0, a1, a2, af, la⟩ := HF.out.i3 3
        obtain ⟨b0, b1, b2, bf, lb⟩ := HF.out.i3 2
        have hold := olds V3
        refine ⟨_, rfl, sb, ?_⟩
        simp only [Act.put, pA, pB, pC]
        refine ST.c1 ?_ ?_
        · refine (kOwn_any D n d V3 (HF.out.iG 5) (fun g hg => by have := HD.out.2 g hg; omega) (by have := HD.out.1; omega)).mono ?_
          rintro e V4 ⟨v, rfl, ho, hb⟩
          obtain ⟨D3, d3, rfl, hd3⟩ := ho.form'
          have HO5 := Lib.hid ho
          replace HO1 := Lib.hid (HO1.out.below hb)
          replace HO3 := Lib.hid (HO3.out.below (EMo.stays _ _) hb)
          have hz3 := hb.size
          replace HF := Lib.hid (HF.out.step hb)
          clear ho hb a0 a1 a2 af la b0 b1 b2 bf lb hold
          obtain ⟨a0, a1, a2, af, la⟩ := HF.out.i3 3
          obtain ⟨b0, b1, b2, bf, lb⟩ := HF.out.i3 2
          have hold := olds V4
          refine ⟨_, rfl, sb, ?_⟩
          simp only [Act.put, pA, pB, pC]
          refine ST.v1 ?_ ST.stop
          simp only [Act.put, pA, pB, pC]
          generalize hV : World.alloc V4 _ = V5
          have hb : Below V4.heap.size V4 V5 := by rw [← hV]; exact bl
          replace HO1 := Lib.hid (HO1.out.below hb)
          replace HO3 := Lib.hid (HO3.out.below (EMo.stays _ _) hb)
          replace HO5 := Lib.hid (HO5.out.below hb)
          have hw6 := (HF.out.iB 1).size
          have hs6' : V4.heap.size + 1 ≤ V5.heap.size := by rw [← hV]; simp
          replace HF := Lib.hid (HF.out.al hV)
          clear hV hb a0 a1 a2 af la b0 b1 b2 bf lb hold
          obtain ⟨a0, a1, a2, af, la⟩ := HF.out.i3 4
          obtain ⟨b0, b1, b2, bf, lb⟩ := HF.out.i3 3
          have hold := olds V5
          obtain ⟨t0, t1, t2, tf, lt⟩ := HF.out.i3 0
          obtain ⟨u0, u1, u2, uf, lu⟩ := HF.out.i3 1
          have hn1 : (V4.heap.size = V1.heap.size) = False := by simp; omega
          have hn3 : (V4.heap.size = w.heap.size + 1) = False := by simp; omega
          have hn2 : (V1.heap.size = V4.heap.size) = False := by simp; omega
          iterate 3 ((first|refine ST.q ?_|refine ST.m ?_|refine ST.n ?_|refine ST.v1 ?_ ST.stop|refine ST.k1 ?_ ST.stop);simp only [Act.put, pA, pB, pC])
          simp only [ST]
          go_wp2
          go_meet
          exact ⟨_, A3, c3, A6, c6, _, D3, d3, rfl, rfl, rfl, hc3, hd3, Lib.hid (chain_leaf HW4.out (HF.out.iB 2) hw6 hw7 (by omega) (HF.out.iX 0) (HF.out.iX 1) HO1.out HO3.out HO5.out HC.out HD.out HM.out)⟩
        refine ST.v1 ?_ ST.stop
        simp only [Act.put, pA, pB, pC]
        generalize hV : World.alloc V3 _ = V4
        have hb : Below V3.heap.size V3 V4 := by rw [← hV]; exact bl
        replace HO1 := Lib.hid (HO1.out.below hb)
        replace HO3 := Lib.hid (HO3.out.below (EMo.stays _ _) hb)
        have hw6 := (HF.out.iB 1).size
        have hs6' : V3.heap.size + 1 ≤ V4.heap.size := by rw [← hV]; simp
        replace HF := Lib.hid (HF.out.al hV)
        clear hV hb a0 a1 a2 af la b0 b1 b2 bf lb hold
        obtain ⟨a0, a1, a2, af, la⟩ := HF.out.i3 4
        obtain ⟨b0, b1, b2, bf, lb⟩ := HF.out.i3 3
        have hold := olds V4
        refine ST.c1 ?_ ST.stop
        refine (kOwn_any D n d V4 (HF.out.iG 6) (fun g hg => by have := HD.out.2 g hg; omega) (by have := HD.out.1; omega)).mono ?_
        rintro e V5 ⟨v, rfl, ho, hb⟩
        obtain ⟨D3, d3, rfl, hd3⟩ := ho.form'
        have HO5 := Lib.hid ho
        replace HO1 := Lib.hid (HO1.out.below hb)
        replace HO3 := Lib.hid (HO3.out.below (EMo.stays _ _) hb)
        have hz4 := hb.size
        replace HF := Lib.hid (HF.out.step hb)
        clear ho hb a0 a1 a2 af la b0 b1 b2 bf lb hold
        obtain ⟨a0, a1, a2, af, la⟩ := HF.out.i3 4
        obtain ⟨b0, b1, b2, bf, lb⟩ := HF.out.i3 3
        have hold := olds V5
        obtain ⟨t0, t1, t2, tf, lt⟩ := HF.out.i3 0
        obtain ⟨u0, u1, u2, uf, lu⟩ := HF.out.i3 1
        have hn1 : (V3.heap.size = V1.heap.size) = False := by simp; omega
        have hn3 : (V3.heap.size = w.heap.size + 1) = False := by simp; omega
        have hn2 : (V1.heap.size = V3.heap.size) = False := by simp; omega
        refine ⟨_, rfl, sb, ?_⟩
        simp only [Act.put, pA, pB, pC]
        iterate 3 ((first|refine ST.q ?_|refine ST.m ?_|refine ST.n ?_|refine ST.v1 ?_ ST.stop|refine ST.k1 ?_ ST.stop);simp only [Act.put, pA, pB, pC])
        simp only [ST]
        go_wp2
        go_meet
        exact ⟨_, A3, c3, A6, c6, _, D3, d3, rfl, rfl, rfl, hc3, hd3, Lib.hid (chain_leaf HW4.out (HF.out.iB 2) hw6 hw7 (by omega) (HF.out.iX 0) (HF.out.iX 1) HO1.out HO3.out HO5.out HC.out HD.out HM.out)⟩
      refine ST.v1 ?_ ST.stop
      simp only [Act.put, pA, pB, pC]
      generalize hV : World.alloc V2 _ = V3
      have hb : Below V2.heap.size V2 V3 := by rw [← hV]; exact bl
      replace HO1 := Lib.hid (HO1.out.below hb)
      have hw6 := (HF.out.iB 1).size
      have hs6' : V2.heap.size + 1 ≤ V3.heap.size := by rw [← hV]; simp
      replace HF := Lib.hid (HF.out.al hV)
      clear hV hb a0 a1 a2 af la b0 b1 b2 bf lb hold
      obtain ⟨a0, a1, a2, af, la⟩ := HF.out.i3 4
      obtain ⟨b0, b1, b2, bf, lb⟩ := HF.out.i3 3
      have hold := olds V3
      refine ST.c1 ?_ ST.stop
      refine (rOwnM_any B l.length m l V3 (HF.out.iM 5) rfl (fun g hg => by have := HM.out.2 g hg; omega) (by have := HM.out.1; omega)).mono ?_
      rintro e V4 ⟨v, rfl, ho, hb⟩
      obtain ⟨A6, c6, rfl, _⟩ := ho.form
      have HO3 := Lib.hid ho
      replace HO1 := Lib.hid (HO1.out.below hb)
      have hz3 := hb.size
      replace HF := Lib.hid (HF.out.step hb)
      clear ho hb a0 a1 a2 af la b0 b1 b2 bf lb hold
      obtain ⟨a0, a1, a2, af, la⟩ := HF.out.i3 4
      obtain ⟨b0, b1, b2, bf, lb⟩ := HF.out.i3 3
      have hold := olds V4
      refine ⟨_, rfl, sb, ?_⟩
      simp only [Act.put, pA, pB, pC]
      refine ST.c1 ?_ ST.stop
      refine (kOwn_any D n d V4 (HF.out.iG 6) (fun g hg => by have := HD.out.2 g hg; omega) (by have := HD.out.1; omega)).mono ?_
      rintro e V5 ⟨v, rfl, ho, hb⟩
      obtain ⟨D3, d3, rfl, hd3⟩ := ho.form'
      have HO5 := Lib.hid ho
      replace HO1 := Lib.hid (HO1.out.below hb)
      replace HO3 := Lib.hid (HO3.out.below (EMo.stays _ _) hb)
      have hz4 := hb.size
      replace HF := Lib.hid (HF.out.step hb)
      clear ho hb a0 a1 a2 af la b0 b1 b2 bf lb hold
      obtain ⟨a0, a1, a2, af, la⟩ := HF.out.i3 4
      obtain ⟨b0, b1, b2, bf, lb⟩ := HF.out.i3 3
      have hold := olds V5
      obtain ⟨t0, t1, t2, tf, lt⟩ := HF.out.i3 0
      obtain ⟨u0, u1, u2, uf, lu⟩ := HF.out.i3 1
      have hn1 : (V2.heap.size = V1.heap.size) = False := by simp; omega
      have hn3 : (V2.heap.size = w.heap.size + 1) = False := by simp; omega
      have hn2 : (V1.heap.size = V2.heap.size) = False := by simp; omega
      refine ⟨_, rfl, sb, ?_⟩
      simp only [Act.put, pA, pB, pC]
      iterate 3 ((first|refine ST.q ?_|refine ST.m ?_|refine ST.n ?_|refine ST.v1 ?_ ST.stop|refine ST.k1 ?_ ST.stop);simp only [Act.put, pA, pB, pC])
      simp only [ST]
      go_wp2
      go_meet
      exact ⟨_, A3, c3, A6, c6, _, D3, d3, rfl, rfl, rfl, hc3, hd3, Lib.hid (chain_leaf HW4.out (HF.out.iB 2) hw6 hw7 (by omega) (HF.out.iX 0) (HF.out.iX 1) HO1.out HO3.out HO5.out HC.out HD.out HM.out)⟩
    refine ST.v1 ?_ ?_
    · simp only [Act.put, pA, pB, pC]
      generalize hV : World.alloc V0 _ = V1
      have hb : Below V0.heap.size V0 V1 := by rw [← hV]; exact bl
      have hw6 := (HF.out.iB 0).size
      have hs6' : V0.heap.size + 1 ≤ V1.heap.size := by rw [← hV]; simp
      replace HF := Lib.hid (HF.out.al hV)
      clear hV hb a0 a1 a2 af la b0 b1 b2 bf lb hold
      obtain ⟨a0, a1, a2, af, la⟩ := HF.out.i3 3
      obtain ⟨b0, b1, b2, bf, lb⟩ := HF.out.i3 2
      have hold := olds V1
      refine ST.c1 ?_ ?_
      · refine (kOwn_any A k c V1 (HF.out.iG 6) (fun g hg => by have := HC.out.2 g hg; omega) (by have := HC.out.1; omega)).mono ?_
        rintro e V2 ⟨v, rfl, ho, hb⟩
        obtain ⟨A3, c3, rfl, hc3⟩ := ho.form'
        have HO1 := Lib.hid ho
        have hz1 := hb.size
        replace HF := Lib.hid (HF.out.step hb)
        clear ho hb a0 a1 a2 af la b0 b1 b2 bf lb hold
        obtain ⟨a0, a1, a2, af, la⟩ := HF.out.i3 3
        obtain ⟨b0, b1, b2, bf, lb⟩ := HF.out.i3 2
        have hold := olds V2
        refine ⟨_, rfl, sb, ?_⟩
        simp only [Act.put, pA, pB, pC]
        refine ST.c1 ?_ ?_
        · refine (rOwnM_any B l.length m l V2 (HF.out.iM 4) rfl (fun g hg => by have := HM.out.2 g hg; omega) (by have := HM.out.1; omega)).mono ?_
          rintro e V3 ⟨v, rfl, ho, hb⟩
          obtain ⟨A6, c6, rfl, _⟩ := ho.form
          have HO3 := Lib.hid ho
          replace HO1 := Lib.hid (HO1.out.below hb)
          have hz2 := hb.size
          replace HF := Lib.hid (HF.out.step hb)
          clear ho hb a0 a1 a2 af la b0 b1 b2 bf lb hold
          obtain ⟨a0, a1, a2, af, la⟩ := HF.out.i3 3
          obtain ⟨b0, b1, b2, bf, lb⟩ := HF.out.i3 2
          have hold := olds V3
          refine ⟨_, rfl, sb, ?_⟩
          simp only [Act.put, pA, pB, pC]
          refine ST.c1 ?_ ?_
          · refine (kOwn_any D n d V3 (HF.out.iG 5) (fun g hg => by have := HD.out.2 g hg; omega) (by have := HD.out.1; omega)).mono ?_
            rintro e V4 ⟨v, rfl, ho, hb⟩
            obtain ⟨D3, d3, rfl, hd3⟩ := ho.form'
            have HO5 := Lib.hid ho
            replace HO1 := Lib.hid (HO1.out.below hb)
            replace HO3 := Lib.hid (HO3.out.below (EMo.stays _ _) hb)
            have hz3 := hb.size
            replace HF := Lib.hid (HF.out.step hb)
            clear ho hb a0 a1 a2 af la b0 b1 b2 bf lb hold
            obtain ⟨a0, a1, a2, af, la⟩ := HF.out.i3 3
            obtain ⟨b0, b1, b2, bf, lb⟩ := HF.out.i3 2
            have hold := olds V4
            refine ⟨_, rfl, sb, ?_⟩
            simp only [Act.put, pA, pB, pC]
            refine ST.v1 ?_ ST.stop
            simp only [Act.put, pA, pB, pC]
            generalize hV : World.alloc V4 _ = V5
            have hb : Below V4.heap.size V4 V5 := by rw [← hV]; exact bl
            replace HO1 := Lib.hid (HO1.out.below hb)
            replace HO3 := Lib.hid (HO3.out.below (EMo.stays _ _) hb)
            replace HO5 := Lib.hid (HO5.out.below hb)
            have hw7 := (HF.out.iB 1).size
            have hs7' : V4.heap.size + 1 ≤ V5.heap.size := by rw [← hV]; simp
            replace HF := Lib.hid (HF.out.al hV)
            clear hV hb a0 a1 a2 af la b0 b1 b2 bf lb hold
            obtain ⟨a0, a1, a2, af, la⟩ := HF.out.i3 4
            obtain ⟨b0, b1, b2, bf, lb⟩ := HF.out.i3 3
            have hold := olds V5
            obtain ⟨u0, u1, u2, uf, lu⟩ := HF.out.i3 0
            obtain ⟨t0, t1, t2, tf, lt⟩ := HF.out.i3 1
            have hn1 : (V0.heap.size = V4.heap.size) = False := by simp; omega
            have hn3 : (V0.heap.size = w.heap.size + 1) = False := by simp; omega
            have hn2 : (V4.heap.size = V0.heap.size) = False := by simp; omega
            iterate 3 ((first|refine ST.q ?_|refine ST.m ?_|refine ST.n ?_|refine ST.v1 ?_ ST.stop|refine ST.k1 ?_ ST.stop);simp only [Act.put, pA, pB, pC])
            simp only [ST]
            go_wp2
            go_meet
            exact ⟨_, A3, c3, A6, c6, _, D3, d3, rfl, rfl, rfl, hc3, hd3, Lib.hid (chain_leaf HW4.out (HF.out.iB 2) hw6 hw7 (by omega) (HF.out.iX 1) (HF.out.iX 0) HO1.out HO3.out HO5.out HC.out HD.out HM.out)⟩
          refine ST.v1 ?_ ST.stop
          simp only [Act.put, pA, pB, pC]
          generalize hV : World.alloc V3 _ = V4
          have hb : Below V3.heap.size V3 V4 := by rw [← hV]; exact bl
          replace HO1 := Lib.hid (HO1.out.below hb)
          replace HO3 := Lib.hid (HO3.out.below (EMo.stays _ _) hb)
          have hw7 := (HF.out.iB 1).size
          have hs7' : V3.heap.size + 1 ≤ V4.heap.size := by rw [← hV]; simp
          replace HF := Lib.hid (HF.out.al hV)
          clear hV hb a0 a1 a2 af la b0 b1 b2 bf lb hold
          obtain ⟨a0, a1, a2, af, la⟩ := HF.out.i3 4
          obtain ⟨b0, b1, b2, bf, lb⟩ := HF.out.i3 3
          have hold := olds V4
          refine ST.c1 ?_ ST.stop
          refine (kOwn_any D n d V4 (HF.out.iG 6) (fun g hg => by have := HD.out.2 g hg; omega) (by have := HD.out.1; omega)).mono ?_
          rintro e V5 ⟨v, rfl, ho, hb⟩
          obtain ⟨D3, d3, rfl, hd3⟩ := ho.form'
          have HO5 := Lib.hid ho
          replace HO1 := Lib.hid (HO1.out.below hb)
          replace HO3 := Lib.hid (HO3.out.below (EMo.stays _ _) hb)
          have hz4 := hb.size
          replace HF := Lib.hid (HF.out.step hb)
          clear ho hb a0 a1 a2 af la b0 b1 b2 bf lb hold
          obtain ⟨a0, a1, a2, af, la⟩ := HF.out.i3 4
          obtain ⟨b0, b1, b2, bf, lb⟩ := HF.out.i3 3
          have hold := olds V5
          obtain ⟨t0, t1, t2, tf, lt⟩ := HF.out.i3 1
          obtain ⟨u0, u1, u2, uf, lu⟩ := HF.out.i3 0
          have hn1 : (V0.heap.size = V3.heap.size) = False := by simp; omega
          have hn3 : (V0.heap.size = w.heap.size + 1) = False := by simp; omega
          have hn2 : (V3.heap.size = V0.heap.size) = False := by simp; omega
          refine ⟨_, rfl, sb, ?_⟩
          simp only [Act.put, pA, pB, pC]
          iterate 3 ((first|refine ST.q ?_|refine ST.m ?_|refine ST.n ?_|refine ST.v1 ?_ ST.stop|refine ST.k1 ?_ ST.stop);simp only [Act.put, pA, pB, pC])
          simp only [ST]
          go_wp2
          go_meet
          exact ⟨_, A3, c3, A6, c6, _, D3, d3, rfl, rfl, rfl, hc3, hd3, Lib.hid (chain_leaf HW4.out (HF.out.iB 2) hw6 hw7 (by omega) (HF.out.iX 1) (HF.out.iX 0) HO1.out HO3.out HO5.out HC.out HD.out HM.out)⟩
        refine ST.v1 ?_ ST.stop
        simp only [Act.put, pA, pB, pC]
        generalize hV : World.alloc V2 _ = V3
        have hb : Below V2.heap.size V2 V3 := by rw [← hV]; exact bl
        replace HO1 := Lib.hid (HO1.out.below hb)
        have hw7 := (HF.out.iB 1).size
        have hs7' : V2.heap.size + 1 ≤ V3.heap.size := by rw [← hV]; simp
        replace HF := Lib.hid (HF.out.al hV)
        clear hV hb a0 a1 a2 af la b0 b1 b2 bf lb hold
        obtain ⟨a0, a1, a2, af, la⟩ := HF.out.i3 4
        obtain ⟨b0, b1, b2, bf, lb⟩ := HF.out.i3 3
        have hold := olds V3
        refine ST.c1 ?_ ST.stop
        refine (rOwnM_any B l.length m l V3 (HF.out.iM 5) rfl (fun g hg => by have := HM.out.2 g hg; omega) (by have := HM.out.1; omega)).mono ?_
        rintro e V4 ⟨v, rfl, ho, hb⟩
        obtain ⟨A6, c6, rfl, _⟩ := ho.form
        have HO3 := Lib.hid ho
        replace HO1 := Lib.hid (HO1.out.below hb)
        have hz3 := hb.size
        replace HF := Lib.hid (HF.out.step hb)
        clear ho hb a0 a1 a2 af la b0 b1 b2 bf lb hold
        obtain ⟨a0, a1, a2, af, la⟩ := HF.out.i3 4
        obtain ⟨b0, b1, b2, bf, lb⟩ := HF.out.i3 3
        have hold := olds V4
        refine ⟨_, rfl, sb, ?_⟩
        simp only [Act.put, pA, pB, pC]
        refine ST.c1 ?_ ST.stop
        refine (kOwn_any D n d V4 (HF.out.iG 6) (fun g hg => by have := HD.out.2 g hg; omega) (by have := HD.out.1; omega)).mono ?_
        rintro e V5 ⟨v, rfl, ho, hb⟩
        obtain ⟨D3, d3, rfl, hd3⟩ := ho.form'
        have HO5 := Lib.hid ho
        replace HO1 := Lib.hid (HO1.out.below hb)
        replace HO3 := Lib.hid (HO3.out.below (EMo.stays _ _) hb)
        have hz4 := hb.size
        replace HF := Lib.hid (HF.out.step hb)
        clear ho hb a0 a1 a2 af la b0 b1 b2 bf lb hold
        obtain ⟨a0, a1, a2, af, la⟩ := HF.out.i3 4
        obtain ⟨b0, b1, b2, bf, lb⟩ := HF.out.i3 3
        have hold := olds V5
        obtain ⟨t0, t1, t2, tf, lt⟩ := HF.out.i3 1
        obtain ⟨u0, u1, u2, uf, lu⟩ := HF.out.i3 0
        have hn1 : (V0.heap.size = V2.heap.size) = False := by simp; omega
        have hn3 : (V0.heap.size = w.heap.size + 1) = False := by simp; omega
        have hn2 : (V2.heap.size = V0.heap.size) = False := by simp; omega
        refine ⟨_, rfl, sb, ?_⟩
        simp only [Act.put, pA, pB, pC]
        iterate 3 ((first|refine ST.q ?_|refine ST.m ?_|refine ST.n ?_|refine ST.v1 ?_ ST.stop|refine ST.k1 ?_ ST.stop);simp only [Act.put, pA, pB, pC])
        simp only [ST]
        go_wp2
        go_meet
        exact ⟨_, A3, c3, A6, c6, _, D3, d3, rfl, rfl, rfl, hc3, hd3, Lib.hid (chain_leaf HW4.out (HF.out.iB 2) hw6 hw7 (by omega) (HF.out.iX 1) (HF.out.iX 0) HO1.out HO3.out HO5.out HC.out HD.out HM.out)⟩
      refine ST.v1 ?_ ST.stop
      simp only [Act.put, pA, pB, pC]
      generalize hV : World.alloc V1 _ = V2
      have hb : Below V1.heap.size V1 V2 := by rw [← hV]; exact bl
      have hw7 := (HF.out.iB 1).size
      have hs7' : V1.heap.size + 1 ≤ V2.heap.size := by rw [← hV]; simp
      replace HF := Lib.hid (HF.out.al hV)
      clear hV hb a0 a1 a2 af la b0 b1 b2 bf lb hold
      obtain ⟨a0, a1, a2, af, la⟩ := HF.out.i3 4
      obtain ⟨b0, b1, b2, bf, lb⟩ := HF.out.i3 3
      have hold := olds V2
      refine ST.c1 ?_ ST.stop
      refine (kOwn_any A k c V2 (HF.out.iG 7) (fun g hg => by have := HC.out.2 g hg; omega) (by have := HC.out.1; omega)).mono ?_
      rintro e V3 ⟨v, rfl, ho, hb⟩
      obtain ⟨A3, c3, rfl, hc3⟩ := ho.form'
      have HO1 := Lib.hid ho
      have hz2 := hb.size
      replace HF := Lib.hid (HF.out.step hb)
      clear ho hb a0 a1 a2 af la b0 b1 b2 bf lb hold
      obtain ⟨a0, a1, a2, af, la⟩ := HF.out.i3 4
      obtain ⟨b0, b1, b2, bf, lb⟩ := HF.out.i3 3
      have hold := olds V3
      refine ⟨_, rfl, sb, ?_⟩
      simp only [Act.put, pA, pB, pC]
      refine ST.c1 ?_ ST.stop
      refine (rOwnM_any B l.length m l V3 (HF.out.iM 5) rfl (fun g hg => by have := HM.out.2 g hg; omega) (by have := HM.out.1; omega)).mono ?_
      rintro e V4 ⟨v, rfl, ho, hb⟩
      obtain ⟨A6, c6, rfl, _⟩ := ho.form
      have HO3 := Lib.hid ho
      replace HO1 := Lib.hid (HO1.out.below hb)
      have hz3 := hb.size
      replace HF := Lib.hid (HF.out.step hb)
      clear ho hb a0 a1 a2 af la b0 b1 b2 bf lb hold
      obtain ⟨a0, a1, a2, af, la⟩ := HF.out.i3 4
      obtain ⟨b0, b1, b2, bf, lb⟩ := HF.out.i3 3
      have hold := olds V4
      refine ⟨_, rfl, sb, ?_⟩
      simp only [Act.put, pA, pB, pC]
      refine ST.c1 ?_ ST.stop
      refine (kOwn_any D n d V4 (HF.out.iG 6) (fun g hg => by have := HD.out.2 g hg; omega) (by have := HD.out.1; omega)).mono ?_
      rintro e V5 ⟨v, rfl, ho, hb⟩
      obtain ⟨D3, d3, rfl, hd3⟩ := ho.form'
      have HO5 := Lib.hid ho
      replace HO1 := Lib.hid (HO1.out.below hb)
      replace HO3 := Lib.hid (HO3.out.below (EMo.stays _ _) hb)
      have hz4 := hb.size
      replace HF := Lib.hid (HF.out.step hb)
      clear ho hb a0 a1 a2 af la b0 b1 b2 bf lb hold
      obtain ⟨a0, a1, a2, af, la⟩ := HF.out.i3 4
      obtain ⟨b0, b1, b2, bf, lb⟩ := HF.out.i3 3
      have hold := olds V5
      obtain ⟨t0, t1, t2, tf, lt⟩ := HF.out.i3 1
      obtain ⟨u0, u1, u2, uf, lu⟩ := HF.out.i3 0
      have hn1 : (V0.heap.size = V1.heap.size) = False := by simp; omega
      have hn3 : (V0.heap.size = w.heap.size + 1) = False := by simp; omega
      have hn2 : (V1.heap.size = V0.heap.size) = False := by simp; omega
      refine ⟨_, rfl, sb, ?_⟩
      simp only [Act.put, pA, pB, pC]
      iterate 3 ((first|refine ST.q ?_|refine ST.m ?_|refine ST.n ?_|refine ST.v1 ?_ ST.stop|refine ST.k1 ?_ ST.stop);simp only [Act.put, pA, pB, pC])
      simp only [ST]
      go_wp2
      go_meet
      exact ⟨_, A3, c3, A6, c6, _, D3, d3, rfl, rfl, rfl, hc3, hd3, Lib.hid (chain_leaf HW4.out (HF.out.iB 2) hw6 hw7 (by omega) (HF.out.iX 1) (HF.out.iX 0) HO1.out HO3.out HO5.out HC.out HD.out HM.out)⟩
    refine ST.v1 ?_ ST.stop
    simp only [Act.put, pA, pB, pC]
    generalize hV : World.alloc V0 _ = V1
    have hb : Below V0.heap.size V0 V1 := by rw [← hV]; exact bl
    have hw7 := (HF.out.iB 0).size
    have hs7' : V0.heap.size + 1 ≤ V1.heap.size := by rw [← hV]; simp
    replace HF := Lib.hid (HF.out.al hV)
    clear hV hb a0 a1 a2 af la b0 b1 b2 bf lb hold
    obtain ⟨a0, a1, a2, af, la⟩ := HF.out.i3 3
    obtain ⟨b0, b1, b2, bf, lb⟩ := HF.out.i3 2
    have hold := olds V1
    refine ST.c1 ?_ ?_
    · refine (kOwn_any A k c V1 (HF.out.iG 6) (fun g hg => by have := HC.out.2 g hg; omega) (by have := HC.out.1; omega)).mono ?_
      rintro e V2 ⟨v, rfl, ho, hb⟩
      obtain ⟨A3, c3, rfl, hc3⟩ := ho.form'
      have HO1 := Lib.hid ho
      have hz1 := hb.size
      replace HF := Lib.hid (HF.out.step hb)
      clear ho hb a0 a1 a2 af la b0 b1 b2 bf lb hold
      obtain ⟨a0, a1, a2, af, la⟩ := HF.out.i3 3
      obtain ⟨b0, b1, b2, bf, lb⟩ := HF.out.i3 2
      have hold := olds V2
      refine ⟨_, rfl, sb, ?_⟩
      simp only [Act.put, pA, pB, pC]
      refine ST.c1 ?_ ?_
      · refine (rOwnM_any B l.length m l V2 (HF.out.iM 4) rfl (fun g hg => by have := HM.out.2 g hg; omega) (by have := HM.out.1; omega)).mono ?_
        rintro e V3 ⟨v, rfl, ho, hb⟩
        obtain ⟨A6, c6, rfl, _⟩ := ho.form
        have HO3 := Lib.hid ho
        replace HO1 := Lib.hid (HO1.out.below hb)
        have hz2 := hb.size
        replace HF := Lib.hid (HF.out.step hb)
        clear ho hb a0 a1 a2 af la b0 b1 b2 bf lb hold
        obtain ⟨a0, a1, a2, af, la⟩ := HF.out.i3 3
        obtain ⟨b0, b1, b2, bf, lb⟩ := HF.out.i3 2
        have hold := olds V3
        refine ⟨_, rfl, sb, ?_⟩
        simp only [Act.put, pA, pB, pC]
        refine ST.c1 ?_ ?_
        · refine (kOwn_any D n d V3 (HF.out.iG 5) (fun g hg => by have := HD.out.2 g hg; omega) (by have := HD.out.1; omega)).mono ?_
          rintro e V4 ⟨v, rfl, ho, hb⟩
          obtain ⟨D3, d3, rfl, hd3⟩ := ho.form'
          have HO5 := Lib.hid ho
          replace HO1 := Lib.hid (HO1.out.below hb)
          replace HO3 := Lib.hid (HO3.out.below (EMo.stays _ _) hb)
          have hz3 := hb.size
          replace HF := Lib.hid (HF.out.step hb)
          clear ho hb a0 a1 a2 af la b0 b1 b2 bf lb hold
          obtain ⟨a0, a1, a2, af, la⟩ := HF.out.i3 3
          obtain ⟨b0, b1, b2, bf, lb⟩ := HF.out.i3 2
          have hold := olds V4
          refine ⟨_, rfl, sb, ?_⟩
          simp only [Act.put, pA, pB, pC]
          refine ST.v1 ?_ ST.stop
          simp only [Act.put, pA, pB, pC]
          generalize hV : World.alloc V4 _ = V5
          have hb : Below V4.heap.size V4 V5 := by rw [← hV]; exact bl
          replace HO1 := Lib.hid (HO1.out.below hb)
          replace HO3 := Lib.hid (HO3.out.below (EMo.stays _ _) hb)
          replace HO5 := Lib.hid (HO5.out.below hb)
          have hw6 := (HF.out.iB 1).size
          have hs6' : V4.heap.size + 1 ≤ V5.heap.size := by rw [← hV]; simp
          replace HF := Lib.hid (HF.out.al hV)
          clear hV hb a0 a1 a2 af la b0 b1 b2 bf lb hold
          obtain ⟨a0, a1, a2, af, la⟩ := HF.out.i3 4
          obtain ⟨b0, b1, b2, bf, lb⟩ := HF.out.i3 3
          have hold := olds V5
          obtain ⟨t0, t1, t2, tf, lt⟩ := HF.out.i3 0
          obtain ⟨u0, u1, u2, uf, lu⟩ := HF.out.i3 1
          have hn1 : (V4.heap.size = V0.heap.size) = False := by simp; omega
          have hn3 : (V4.heap.size = w.heap.size + 1) = False := by simp; omega
          have hn2 : (V0.heap.size = V4.heap.size) = False := by simp; omega
          iterate 3 ((first|refine ST.q ?_|refine ST.m ?_|refine ST.n ?_|refine ST.v1 ?_ ST.stop|refine ST.k1 ?_ ST.stop);simp only [Act.put, pA, pB, pC])
          simp only [ST]
          go_wp2
          go_meet
          exact ⟨_, A3, c3, A6, c6, _, D3, d3, rfl, rfl, rfl, hc3, hd3, Lib.hid (chain_leaf HW4.out (HF.out.iB 2) hw6 hw7 (by omega) (HF.out.iX 0) (HF.out.iX 1) HO1.out HO3.out HO5.out HC.out HD.out HM.out)⟩
        refine ST.v1 ?_ ST.stop
        simp only [Act.put, pA, pB, pC]
        generalize hV : World.alloc V3 _ = V4
        have hb : Below V3.heap.size V3 V4 := by rw [← hV]; exact bl
        replace HO1 := Lib.hid (HO1.out.below hb)
        replace HO3 := Lib.hid (HO3.out.below (EMo.stays _ _) hb)
        have hw6 := (HF.out.iB 1).size
        have hs6' : V3.heap.size + 1 ≤ V4.heap.size := by rw [← hV]; simp
        replace HF := Lib.hid (HF.out.al hV)
        clear hV hb a0 a1 a2 af la b0 b1 b2 bf lb hold
        obtain ⟨a0, a1, a2, af, la⟩ := HF.out.i3 4
        obtain ⟨b0, b1, b2, bf, lb⟩ := HF.out.i3 3
        have hold := olds V4
        refine ST.c1 ?_ ST.stop
        refine (kOwn_any D n d V4 (HF.out.iG 6) (fun g hg => by have := HD.out.2 g hg; omega) (by have := HD.out.1; omega)).mono ?_
        rintro e V5 ⟨v, rfl, ho, hb⟩
        obtain ⟨D3, d3, rfl, hd3⟩ := ho.form'
        have HO5 := Lib.hid ho
        replace HO1 := Lib.hid (HO1.out.below hb)
        replace HO3 := Lib.hid (HO3.out.below (EMo.stays _ _) hb)
        have hz4 := hb.size
        replace HF := Lib.hid (HF.out.step hb)
        clear ho hb a0 a1 a2 af la b0 b1 b2 bf lb hold
        obtain ⟨a0, a1, a2, af, la⟩ := HF.out.i3 4
        obtain ⟨b0, b1, b2, bf, lb⟩ := HF.out.i3 3
        have hold := olds V5
        obtain ⟨t0, t1, t2, tf, lt⟩ := HF.out.i3 0
        obtain ⟨u0, u1, u2, uf, lu⟩ := HF.out.i3 1
        have hn1 : (V3.heap.size = V0.heap.size) = False := by simp; omega
        have hn3 : (V3.heap.size = w.heap.size + 1) = False := by simp; omega
        have hn2 : (V0.heap.size = V3.heap.size) = False := by simp; omega
        refine ⟨_, rfl, sb, ?_⟩
        simp only [Act.put, pA, pB, pC]
        iterate 3 ((first|refine ST.q ?_|refine ST.m ?_|refine ST.n ?_|refine ST.v1 ?_ ST.stop|refine ST.k1 ?_ ST.stop);simp only [Act.put, pA, pB, pC])
        simp only [ST]
        go_wp2
        go_meet
        exact ⟨_, A3, c3, A6, c6, _, D3, d3, rfl, rfl, rfl, hc3, hd3, Lib.hid (chain_leaf HW4.out (HF.out.iB 2) hw6 hw7 (by omega) (HF.out.iX 0) (HF.out.iX 1) HO1.out HO3.out HO5.out HC.out HD.out HM.out)⟩
      refine ST.v1 ?_ ST.stop
      simp only [Act.put, pA, pB, pC]
      generalize hV : World.alloc V2 _ = V3
      have hb : Below V2.heap.size V2 V3 := by rw [← hV]; exact bl
      replace HO1 := Lib.hid (HO1.out.below hb)
      have hw6 := (HF.out.iB 1).size
      have hs6' : V2.heap.size + 1 ≤ V3.heap.size := by rw [← hV]; simp
      replace HF := Lib.hid (HF.out.al hV)
      clear hV hb a0 a1 a2 af la b0 b1 b2 bf lb hold
      obtain ⟨a0, a1, a2, af, la⟩ := HF.out.i3 4
      obtain ⟨b0, b1, b2, bf, lb⟩ := HF.out.i3 3
      have hold := olds V3
      refine ST.c1 ?_ ST.stop
      refine (rOwnM_any B l.length m l V3 (HF.out.iM 5) rfl (fun g hg => by have := HM.out.2 g hg; omega) (by have := HM.out.1; omega)).mono ?_
      rintro e V4 ⟨v, rfl, ho, hb⟩
      obtain ⟨A6, c6, rfl, _⟩ := ho.form
      have HO3 := Lib.hid ho
      replace HO1 := Lib.hid (HO1.out.below hb)
      have hz3 := hb.size
      replace HF := Lib.hid (HF.out.step hb)
      clear ho hb a0 a1 a2 af la b0 b1 b2 bf lb hold
      obtain ⟨a0, a1, a2, af, la⟩ := HF.out.i3 4
      obtain ⟨b0, b1, b2, bf, lb⟩ := HF.out.i3 3
      have hold := olds V4
      refine ⟨_, rfl, sb, ?_⟩
      simp only [Act.put, pA, pB, pC]
      refine ST.c1 ?_ ST.stop
      refine (kOwn_any D n d V4 (HF.out.iG 6) (fun g hg => by have := HD.out.2 g hg; omega) (by have := HD.out.1; omega)).mono ?_
      rintro e V5 ⟨v, rfl, ho, hb⟩
      obtain ⟨D3, d3, rfl, hd3⟩ := ho.form'
      have HO5 := Lib.hid ho
      replace HO1 := Lib.hid (HO1.out.below hb)
      replace HO3 := Lib.hid (HO3.out.below (EMo.stays _ _) hb)
      have hz4 := hb.size
      replace HF := Lib.hid (HF.out.step hb)
      clear ho hb a0 a1 a2 af la b0 b1 b2 bf lb hold
      obtain ⟨a0, a1, a2, af, la⟩ := HF.out.i3 4
      obtain ⟨b0, b1, b2, bf, lb⟩ := HF.out.i3 3
      have hold := olds V5
      obtain ⟨t0, t1, t2, tf, lt⟩ := HF.out.i3 0
      obtain ⟨u0, u1, u2, uf, lu⟩ := HF.out.i3 1
      have hn1 : (V2.heap.size = V0.heap.size) = False := by simp; omega
      have hn3 : (V2.heap.size = w.heap.size + 1) = False := by simp; omega
      have hn2 : (V0.heap.size = V2.heap.size) = False := by simp; omega
      refine ⟨_, rfl, sb, ?_⟩
      simp only [Act.put, pA, pB, pC]
      iterate 3 ((first|refine ST.q ?_|refine ST.m ?_|refine ST.n ?_|refine ST.v1 ?_ ST.stop|refine ST.k1 ?_ ST.stop);simp only [Act.put, pA, pB, pC])
      simp only [ST]
      go_wp2
      go_meet
      exact ⟨_, A3, c3, A6, c6, _, D3, d3, rfl, rfl, rfl, hc3, hd3, Lib.hid (chain_leaf HW4.out (HF.out.iB 2) hw6 hw7 (by omega) (HF.out.iX 0) (HF.out.iX 1) HO1.out HO3.out HO5.out HC.out HD.out HM.out)⟩
    refine ST.v1 ?_ ST.stop
    simp only [Act.put, pA, pB, pC]
    generalize hV : World.alloc V1 _ = V2
    have hb : Below V1.heap.size V1 V2 := by rw [← hV]; exact bl
    have hw6 := (HF.out.iB 1).size
    have hs6' : V1.heap.size + 1 ≤ V2.heap.size := by rw [← hV]; simp
    replace HF := Lib.hid (HF.out.al hV)
    clear hV hb a0 a1 a2 af la b0 b1 b2 bf lb hold
    obtain ⟨a0, a1, a2, af, la⟩ := HF.out.i3 4
    obtain ⟨b0, b1, b2, bf, lb⟩ := HF.out.i3 3
    have hold := olds V2
    refine ST.c1 ?_ ST.stop
    refine (kOwn_any A k c V2 (HF.out.iG 7) (fun g hg => by have := HC.out.2 g hg; omega) (by have := HC.out.1; omega)).mono ?_
    rintro e V3 ⟨v, rfl, ho, hb⟩
    obtain ⟨A3, c3, rfl, hc3⟩ := ho.form'
    have HO1 := Lib.hid ho
    have hz2 := hb.size
    replace HF := Lib.hid (HF.out.step hb)
    clear ho hb a0 a1 a2 af la b0 b1 b2 bf lb hold
    obtain ⟨a0, a1, a2, af, la⟩ := HF.out.i3 4
    obtain ⟨b0, b1, b2, bf, lb⟩ := HF.out.i3 3
    have hold := olds V3
    refine ⟨_, rfl, sb, ?_⟩
    simp only [Act.put, pA, pB, pC]
    refine ST.c1 ?_ ST.stop
    refine (rOwnM_any B l.length m l V3 (HF.out.iM 5) rfl (fun g hg => by have := HM.out.2 g hg; omega) (by have := HM.out.1; omega)).mono ?_
    rintro e V4 ⟨v, rfl, ho, hb⟩
    obtain ⟨A6, c6, rfl, _⟩ := ho.form
    have HO3 := Lib.hid ho
    replace HO1 := Lib.hid (HO1.out.below hb)
    have hz3 := hb.size
    replace HF := Lib.hid (HF.out.step hb)
    clear ho hb a0 a1 a2 af la b0 b1 b2 bf lb hold
    obtain ⟨a0, a1, a2, af, la⟩ := HF.out.i3 4
    obtain ⟨b0, b1, b2, bf, lb⟩ := HF.out.i3 3
    have hold := olds V4
    refine ⟨_, rfl, sb, ?_⟩
    simp only [Act.put, pA, pB, pC]
    refine ST.c1 ?_ ST.stop
    refine (kOwn_any D n d V4 (HF.out.iG 6) (fun g hg => by have := HD.out.2 g hg; omega) (by have := HD.out.1; omega)).mono ?_
    rintro e V5 ⟨v, rfl, ho, hb⟩
    obtain ⟨D3, d3, rfl, hd3⟩ := ho.form'
    have HO5 := Lib.hid ho
    replace HO1 := Lib.hid (HO1.out.below hb)
    replace HO3 := Lib.hid (HO3.out.below (EMo.stays _ _) hb)
    have hz4 := hb.size
    replace HF := Lib.hid (HF.out.step hb)
    clear ho hb a0 a1 a2 af la b0 b1 b2 bf lb hold
    obtain ⟨a0, a1, a2, af, la⟩ := HF.out.i3 4
    obtain ⟨b0, b1, b2, bf, lb⟩ := HF.out.i3 3
    have hold := olds V5
    obtain ⟨t0, t1, t2, tf, lt⟩ := HF.out.i3 0
    obtain ⟨u0, u1, u2, uf, lu⟩ := HF.out.i3 1
    have hn1 : (V1.heap.size = V0.heap.size) = False := by simp; omega
    have hn3 : (V1.heap.size = w.heap.size + 1) = False := by simp; omega
    have hn2 : (V0.heap.size = V1.heap.size) = False := by simp; omega
    refine ⟨_, rfl, sb, ?_⟩
    simp only [Act.put, pA, pB, pC]
    iterate 3 ((first|refine ST.q ?_|refine ST.m ?_|refine ST.n ?_|refine ST.v1 ?_ ST.stop|refine ST.k1 ?_ ST.stop);simp only [Act.put, pA, pB, pC])
    simp only [ST]
    go_wp2
    go_meet
    exact ⟨_, A3, c3, A6, c6, _, D3, d3, rfl, rfl, rfl, hc3, hd3, Lib.hid (chain_leaf HW4.out (HF.out.iB 2) hw6 hw7 (by omega) (HF.out.iX 0) (HF.out.iX 1) HO1.out HO3.out HO5.out HC.out HD.out HM.out)⟩
  case rest =>
  obtain ⟨bo, A3, c3, A6, c6, bp, D3, d3, rfl, rfl, rfl, hc3, hd3, HF⟩ := hcut
  rename World => w5
  clear HW4 a0 a1 a2 af la b0 b1 b2 bf lb hold
  obtain ⟨a0, a1, a2, af, la⟩ := HF.out.i3 6
  obtain ⟨b0, b1, b2, bf, lb⟩ := HF.out.i3 5
  have hold := olds w5
  obtain ⟨⟨er, tc, ph⟩, hx⟩ : ∃ x, FollowR c l = x := ⟨_, rfl⟩
  have hfs := FollowR_small c l
  rw [hx] at hfs
  have HX := Lib.hid (And.intro hx hfs)
  have hc := rFollow_any A B k m c l w5 (HF.out.iG 9) hk (HF.out.iM 7)
  rw [hx] at hc
  clear hx hfs
  go_wp2_with fail
  refine hc.mono ?_
  clear hc
  rintro e w6 ⟨A5, c5, rfl, hc5, hrf, hb⟩
  dsimp only at hrf hc5 ⊢
  replace HF := Lib.hid ((HF.out.step hb).push (.g A5 tc.gates) hrf.rd)
  clear hrf hb
  clear a0 a1 a2 af la b0 b1 b2 bf lb hold
  obtain ⟨a0, a1, a2, af, la⟩ := HF.out.i3 7
  obtain ⟨b0, b1, b2, bf, lb⟩ := HF.out.i3 6
  have hold := olds w6
  go_upto_region 5 with fail
  generalize hV : World.alloc w6 _ = W7
  replace HF := Lib.hid (HF.out.al hV)
  clear hV
  clear a0 a1 a2 af la b0 b1 b2 bf lb hold
  obtain ⟨a0, a1, a2, af, la⟩ := HF.out.i3 8
  obtain ⟨b0, b1, b2, bf, lb⟩ := HF.out.i3 7
  have hold := olds W7
  have hc := rCheck19_any A B D k m n c d l W7 (HF.out.iG 11) hk (HF.out.iM 9) (HF.out.iG 10) hn
  obtain ⟨⟨cp, ce⟩, hx⟩ : ∃ x, CheckR c l d = x := ⟨_, rfl⟩
  rw [hx] at hc
  have HCK := Lib.hid hx
  clear hx
  go_wp2_with fail
  refine hc.mono ?_
  clear hc
  rintro e w8 ⟨rfl, hb⟩
  replace HF := Lib.hid (HF.out.step hb)
  clear hb
  clear a0 a1 a2 af la b0 b1 b2 bf lb hold
  obtain ⟨a0, a1, a2, af, la⟩ := HF.out.i3 8
  obtain ⟨b0, b1, b2, bf, lb⟩ := HF.out.i3 7
  have hold := olds w8
  dsimp only
  have hc := rInvert19_any A B k m c l w8 (HF.out.iG 11) hk (HF.out.iM 9) (by have := HM.out.1; omega) (fun s hs => by have := HM.out.2 s hs; omega)
  have hs := InvertR_small (c := c) HM.out
  obtain ⟨⟨ie, il⟩, hx⟩ : ∃ x, InvertR c l = x := ⟨_, rfl⟩
  rw [hx] at hc hs
  have HI := Lib.hid (And.intro hx hs)
  clear hx hs
  go_wp2_with fail
  refine hc.mono ?_
  clear hc
  rintro e w9 ⟨v9, rfl, ho, hb⟩
  obtain ⟨A9, c9, rfl, _, hm⟩ := ho.rdM (by have := HI.out.2.1; dsimp only at this ⊢; omega) (fun s hs => by have := HI.out.2.2 s hs; omega)
  replace HF := Lib.hid ((HF.out.step hb).push (.m A9 il) hm)
  have HF9 := Lib.hid HF.out
  replace HF := Lib.hid (HF.out.push (.bel w9) (Below.refl _ _))
  clear ho hb hm
  clear a0 a1 a2 af la b0 b1 b2 bf lb hold
  obtain ⟨a0, a1, a2, af, la⟩ := HF.out.i3 5
  obtain ⟨b0, b1, b2, bf, lb⟩ := HF.out.i3 4
  have hold := olds w9
  dsimp only
  have hc := Follow_any A3 A6 c3 c6 c l w9 (Lib.hid (HT.out.below (HF.out.iB 14))) (HF.out.iG 8) hc3 (HF.out.iM 7)
  rw [HX.out.1] at hc
  go_wp2_with fail
  refine hc.mono ?_
  clear hc
  rintro e w10 ⟨v10, rfl, ho, hb⟩
  dsimp only at ho ⊢
  obtain ⟨A10, c10, rfl, _⟩ := ho.form'
  have HS := Lib.hid ho.spo
  replace HF := Lib.hid ((HF.out.step hb).push (.g A10 tc.gates) (ho.rG HX.out.2.1 HX.out.2.2))
  clear ho hb
  clear a0 a1 a2 af la b0 b1 b2 bf lb hold
  obtain ⟨a0, a1, a2, af, la⟩ := HF.out.i3 6
  obtain ⟨b0, b1, b2, bf, lb⟩ := HF.out.i3 5
  have hold := olds w10
  go_upto_region 8 with fail
  generalize hV : World.alloc w10 _ = W11
  have HB := Lib.hid (show Below w10.heap.size w10 W11 by rw [← hV]; exact bl)
  replace HF := Lib.hid (HF.out.al hV)
  clear hV
  clear a0 a1 a2 af la b0 b1 b2 bf lb hold
  obtain ⟨a0, a1, a2, af, la⟩ := HF.out.i3 7
  obtain ⟨b0, b1, b2, bf, lb⟩ := HF.out.i3 6
  have hold := olds W11
  have hc := rCheck_any A3 A6 D3 c3 c6 d3 c d l W11 (Lib.hid (HT.out.below (HF.out.iB 16))) (HF.out.iG 10) hc3 (HF.out.iM 9) (HF.out.iG 8)
  rw [HCK.out] at hc
  go_wp2_with fail
  refine hc.mono ?_
  clear hc
  rintro e w12 ⟨rfl, hb⟩
  replace HF := Lib.hid (HF.out.step hb)
  have h912 := (HF.out.iB 2).size
  replace HB := Lib.hid (HB.out.trans (hb.mono HB.out.size))
  clear hb
  clear a0 a1 a2 af la b0 b1 b2 bf lb hold
  obtain ⟨a0, a1, a2, af, la⟩ := HF.out.i3 7
  obtain ⟨b0, b1, b2, bf, lb⟩ := HF.out.i3 6
  have hold := olds w12
  dsimp only
  have hc := Invert_any A3 A6 c3 c6 c l w12 (Lib.hid (HT.out.below (HF.out.iB 16))) (HF.out.iG 10) hc3 (HF.out.iM 9) (by have := HM.out.1; omega) (fun s hs => by have := HM.out.2 s hs; omega)
  rw [HI.out.1] at hc
  go_wp2_with fail
  refine hc.mono ?_
  clear hc
  rintro e w13 ⟨v13, rfl, ho, hb⟩
  obtain ⟨A13, c13, rfl, _⟩ := ho.form
  have HO := Lib.hid (And.intro ho (HB.out.size))
  replace HF := Lib.hid (HF.out.step hb)
  replace HS := Lib.hid (HS.out.below (HB.out.trans (hb.mono HB.out.size)))
  have hz := hb.size
  clear ho hb HB
  clear a0 a1 a2 af la b0 b1 b2 bf lb hold
  obtain ⟨a0, a1, a2, af, la⟩ := HF.out.i3 0
  obtain ⟨b0, b1, b2, bf, lb⟩ := HF.out.i3 4
  have hold := olds w13
  dsimp only
  have hc := drawn_in w9.heap.size w10.heap.size A10 A5 c10 c5 tc tc er er w13 HS.out (HF.out.iG 1) HX.out.2.1 (HF.out.iG 5) (HF.out.iB 2).size
  rw [decide_eq_true rfl, decide_eq_true rfl] at hc
  go_wp2_with fail
  refine hc.mono ?_
  clear hc
  rintro e w14 ⟨rfl, hk14⟩
  have hb9 : Below w9.heap.size w9 w14 := (HF.out.iB 2).trans (hk14.1)
  replace HO := Lib.hid (show App (EMo 3 w12.heap.size) 27 4 w12.heap.size w14 (.slice A13 il.length c13) il ∧ Below w9.heap.size w9 w14 ∧ w12.heap.size ≤ w14.heap.size from
    ⟨HO.out.1.keepI hk14 HO.out.2 (fun x cs ⟨v, e, hv⟩ => ⟨v, e, hv.keepI hk14 HO.out.2 fun _ _ h => h⟩), hb9, Nat.le_trans hz hk14.1.size⟩)
  replace HF := Lib.hid (HF9.out.step hb9)
  clear hk14 hb9 hz HS
  clear a0 a1 a2 af la b0 b1 b2 bf lb hold
  obtain ⟨a0, a1, a2, af, la⟩ := HF.out.i3 9
  obtain ⟨b0, b1, b2, bf, lb⟩ := HF.out.i3 8
  have hold := olds w14
  have hc := told_any w12.heap.size A13 A9 c13 c9 il il ie ie w14 HO.out.1 (by have := HI.out.2.1; omega) (fun s hs => by have := HI.out.2.2 s hs; omega) (HF.out.iM 0) HO.out.2.2
  rw [decide_eq_true rfl, decide_eq_true rfl] at hc
  go_wp2_with fail
  refine hc.mono ?_
  clear hc
  rintro e w15 ⟨rfl, hb⟩
  replace HF := Lib.hid (HF9.out.step (HO.out.2.1.trans (hb.mono h912)))
  clear hb HO
  clear a0 a1 a2 af la b0 b1 b2 bf lb hold
  obtain ⟨a0, a1, a2, af, la⟩ := HF.out.i3 4
  obtain ⟨b0, b1, b2, bf, lb⟩ := HF.out.i3 9
  have hold := olds w15
  have hc := kSame_any A3 A c3 k c c w15 (HF.out.iG 7) (HF.out.iG 12)
  rw [decide_eq_true rfl] at hc
  go_wp2_with fail
  refine hc.mono ?_
  clear hc
  rintro e w16 ⟨rfl, hb⟩
  replace HF := Lib.hid (HF.out.step hb)
  clear hb
  clear a0 a1 a2 af la b0 b1 b2 bf lb hold
  obtain ⟨a0, a1, a2, af, la⟩ := HF.out.i3 3
  obtain ⟨b0, b1, b2, bf, lb⟩ := HF.out.i3 8
  have hold := olds w16
  have hc := rEqual_any A6 B l.length l.length c6 m l l w16 (HF.out.iM 6) (HF.out.iM 10) rfl rfl
  rw [decide_eq_true rfl] at hc
  go_wp2_with fail
  refine hc.mono ?_
  clear hc
  rintro e w17 ⟨rfl, hb⟩
  replace HF := Lib.hid (HF.out.step hb)
  clear hb
  clear a0 a1 a2 af la b0 b1 b2 bf lb hold
  obtain ⟨a0, a1, a2, af, la⟩ := HF.out.i3 3
  obtain ⟨b0, b1, b2, bf, lb⟩ := HF.out.i3 8
  have hold := olds w17
  have hc := kSame_any D3 D d3 n d d w17 (HF.out.iG 5) (HF.out.iG 11)
  rw [decide_eq_true rfl] at hc
  go_wp2_with fail
  refine hc.mono ?_
  clear hc
  rintro e w18 ⟨rfl, hb⟩
  replace HF := Lib.hid (HF.out.step hb)
  clear hb
  clear a0 a1 a2 af la b0 b1 b2 bf lb hold
  go_wp2_with fail
  refine (awake_any _ (Lib.hid (HT.out.below (HF.out.iB 13)))).mono ?_
  rintro e w99 ⟨rfl, hb⟩
  replace HF := Lib.hid (HF.out.step hb)
  clear hb
  go_wp2
  go_ret
  exact ⟨rfl, HF.out.iB 13⟩
end Go.Proofs.YtfommmijojfdbaaGreatDoor
