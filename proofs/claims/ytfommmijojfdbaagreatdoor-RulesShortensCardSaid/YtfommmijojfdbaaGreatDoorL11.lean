/- The law of Shorten is walked. -/
import Derived.Test.YtfommmijojfdbaaGreatDoorAW
import Derived.Test.YtfommmijojfdbaaGreatDoorF25
import Derived.Test.YtfommmijojfdbaaGreatDoorM1
set_option linter.all false
namespace Go.Proofs.YtfommmijojfdbaaGreatDoor
open Go.RowKit

set_option maxRecDepth 1000000 in
set_option maxHeartbeats 8000000 in
theorem shortens_law (A : Option Addr) (k : Nat) (c : C) (w : World) (HT : Hid (Laid w)) (h : RdG w A c.gates) (hk : c.gates.length ≤ k) :
    Calls Tryz.prog 6 #[.agg #[.int .i64 c.wires, .int .i64 c.bits, .slice A c.gates.length k]] w fun e w' => e = .returned (.bool true) ∧ Below w.heap.size w w' := by
  have HF := Lib.hid (((AllF.nil w).push (.bel w) (Below.refl _ _)).push (.g A c.gates) h)
  clear h
  go_enter Tryz.func6, Tryz.ntmps6
  go_upto_region 1 with fail
  generalize hV : World.alloc w _ = W1
  replace HF := Lib.hid (HF.out.al hV)
  clear hV
  obtain ⟨a0, a1, a2, af, la⟩ := HF.out.i3 0
  have hold := olds W1
  obtain ⟨q, hq⟩ : ∃ q, greatC c = q := ⟨_, rfl⟩
  have hg := Great_any A k c W1 (HF.out.iG 1)
  rw [hq] at hg
  go_wp2_with fail
  refine hg.mono ?_
  clear hg
  rintro e w2 ⟨rfl, hb⟩
  replace HF := Lib.hid (HF.out.step hb)
  clear hb a0 a1 a2 af la hold
  obtain ⟨a0, a1, a2, af, la⟩ := HF.out.i3 0
  have hold := olds w2
  cases q with
  | true =>
    clear hq
    go_wp2_with fail
    refine (awake_any _ (Lib.hid (HT.out.below (HF.out.iB 2)))).mono ?_
    rintro e w99 ⟨rfl, hb⟩
    replace HF := Lib.hid (HF.out.step hb)
    clear hb
    go_wp2
    go_ret
    exact ⟨rfl, HF.out.iB 2⟩
  | false =>
  have HC := Lib.hid (greatC_no hq)
  clear hq
  go_wp2_with fail
  refine (kOwn_any A k c w2 (HF.out.iG 1) (fun g hg => by have := HC.out.2 g hg; omega) (by have := HC.out.1; omega)).mono ?_
  rintro e w3 ⟨v3, rfl, ho, hb⟩
  obtain ⟨A3, c3, rfl, hc3⟩ := ho.form'
  replace HF := Lib.hid ((HF.out.step hb).push (.g A3 c.gates) (ho.rG (by have := HC.out.1; omega) (fun g hg => by have := HC.out.2 g hg; omega)))
  clear ho hb a0 a1 a2 af la hold
  obtain ⟨a0, a1, a2, af, la⟩ := HF.out.i3 1
  have hold := olds w3
  go_upto_region 4 with fail
  generalize hV : World.alloc w3 _ = W4
  replace HF := Lib.hid (HF.out.al hV)
  clear hV a0 a1 a2 af la hold
  obtain ⟨a0, a1, a2, af, la⟩ := HF.out.i3 2
  obtain ⟨b0, b1, b2, bf, lb⟩ := HF.out.i3 0
  have hold := olds W4
  have hc := rShorten19_any A k c W4 (HF.out.iG 3) hk
  have hs := ShortenR_small c
  obtain ⟨⟨er, l⟩, hx⟩ : ∃ x, ShortenR c = x := ⟨_, rfl⟩
  rw [hx] at hc hs
  have HX := Lib.hid (And.intro hx hs)
  clear hx hs
  go_wp2_with fail
  refine hc.mono ?_
  clear hc
  rintro e w5 ⟨v5, rfl, ho, hb⟩
  obtain ⟨A5, c5, rfl, _, hm⟩ := ho.rdM (by have := HX.out.2.1; dsimp only at this ⊢; omega) (fun s hs => by have := HX.out.2.2 s hs; omega)
  replace HF := Lib.hid ((HF.out.step hb).push (.m A5 l) hm)
  clear ho hb hm a0 a1 a2 af la b0 b1 b2 bf lb hold
  obtain ⟨a0, a1, a2, af, la⟩ := HF.out.i3 3
  obtain ⟨b0, b1, b2, bf, lb⟩ := HF.out.i3 1
  have hold := olds w5
  have hc := Shorten_any A3 c3 c w5 (Lib.hid (HT.out.below (HF.out.iB 5))) (HF.out.iG 2) hc3
  rw [HX.out.1] at hc
  dsimp only
  go_wp2_with fail
  refine hc.mono ?_
  clear hc
  rintro e w6 ⟨v6, rfl, ho, hb⟩
  obtain ⟨A6, c6, rfl, _⟩ := ho.form
  have hc := told_any w5.heap.size A6 A5 c6 c5 l l er er w6 ho (by have := HX.out.2.1; omega) (fun s hs => by have := HX.out.2.2 s hs; omega) ((HF.out.iM 0).bM hb) hb.size
  rw [decide_eq_true rfl, decide_eq_true rfl] at hc
  have HB := Lib.hid hb
  clear ho hb a0 a1 a2 af la b0 b1 b2 bf lb hold
  dsimp only
  go_wp2_with fail
  refine hc.mono ?_
  clear hc
  rintro e w7 ⟨rfl, hb⟩
  replace HF := Lib.hid (HF.out.step (HB.out.trans hb))
  clear hb HB
  obtain ⟨a0, a1, a2, af, la⟩ := HF.out.i3 3
  obtain ⟨b0, b1, b2, bf, lb⟩ := HF.out.i3 1
  have hold := olds w7
  have hc := kSame_any A3 A c3 k c c w7 (HF.out.iG 2) (HF.out.iG 4)
  rw [decide_eq_true rfl] at hc
  go_wp2_with fail
  refine hc.mono ?_
  clear hc
  rintro e w8 ⟨rfl, hb⟩
  replace HF := Lib.hid (HF.out.step hb)
  clear hb a0 a1 a2 af la b0 b1 b2 bf lb hold
  go_wp2_with fail
  refine (awake_any _ (Lib.hid (HT.out.below (HF.out.iB 5)))).mono ?_
  rintro e w99 ⟨rfl, hb⟩
  replace HF := Lib.hid (HF.out.step hb)
  clear hb
  go_wp2
  go_ret
  exact ⟨rfl, HF.out.iB 5⟩
end Go.Proofs.YtfommmijojfdbaaGreatDoor
