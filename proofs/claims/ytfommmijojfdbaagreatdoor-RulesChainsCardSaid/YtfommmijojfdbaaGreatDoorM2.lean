/- The reference's Follow. -/
import Derived.Test.YtfommmijojfdbaaGreatDoorZ32
import Derived.Test.YtfommmijojfdbaaGreatDoorZ26
set_option linter.all false
namespace Go.Proofs.YtfommmijojfdbaaGreatDoor
open Go.RowKit

set_option maxRecDepth 1000000 in
set_option maxHeartbeats 8000000 in
theorem rFollow_any (A B : Option Addr) (k m : Nat) (c : C) (l : List M) (w : World) (h : RdG w A c.gates) (hk : c.gates.length ≤ k) (h' : RdM w B l) :
    Calls Tryz.prog 26 #[.agg #[.int .i64 c.wires, .int .i64 c.bits, .slice A c.gates.length k], .slice B l.length m] w (RetF (FollowR c l) w) := by
  have HH := Lib.hid (And.intro h h')
  have hwl := h'.1
  clear h h'
  go_enter Tryz.func26, Tryz.ntmps26
  go_upto_region 1 with fail
  obtain ⟨W1, hW1⟩ : ∃ W1, (w.alloc (.cells #[.int .i64 c.wires, .int .i64 c.bits, .slice A c.gates.length k] 24)).alloc (.cells #[.int .i64 0, .int .i64 0, .slice none 0 0] 24) = W1 := ⟨_, rfl⟩
  have hb01 : Below w.heap.size w W1 := by rw [← hW1]; (repeat (first|exact bR _ _|assumption|apply bN|apply bA|apply bD))
  have p0 : W1.heap[w.heap.size]? = some (.cells #[.int .i64 c.wires, .int .i64 c.bits, .slice A c.gates.length k] 24) := by rw [← hW1]; exact alloc_old (blk_alloc _ _ _ rfl)
  have p1 : W1.heap[w.heap.size + 1]? = some (.cells #[.int .i64 0, .int .i64 0, .slice none 0 0] 24) := by rw [← hW1]; exact blk_alloc _ _ _ (by simp)
  rw [hW1]
  clear hW1
  obtain ⟨a0, a1, a2, af⟩ := cells3 p0
  obtain ⟨r0, r1, r2, rf⟩ := cells3 p1
  have hp := rPlain19_any A k c W1 (HH.out.1.bG hb01) hk
  go_wp2_with fail
  refine hp.mono ?_
  clear hp
  rintro e w2 ⟨rfl, hb⟩
  have hb02 := hb01.trans (hb.mono hb01.size)
  replace p0 := blk2 hb p0
  replace p1 := blk2 hb p1
  clear hb hb01 a0 a1 a2 af r0 r1 r2 rf
  obtain ⟨a0, a1, a2, af⟩ := cells3 p0
  obtain ⟨r0, r1, r2, rf⟩ := cells3 p1
  by_cases hG : plainE c = 0
  case neg =>
    have hne : (plainE c == 0) = false := by simpa using hG
    have hne2 : (plainE c != 0) = true := by simpa using hG
    have HP := Lib.hid (And.intro p1 hb02)
    have HXX := Lib.hid (show FollowR c l = (plainE c, zeroC, 0) by unfold FollowR; rw [if_neg hG])
    obtain ⟨q, hq⟩ : ∃ q, plainE c = q := ⟨_, rfl⟩
    rw [hq] at hne hne2 HXX ⊢
    clear hq hG
    go_wp2
    rw [HXX.out]
    exact bodyPost_ret (results_list (rs := [.cell 4 24, .tmp 5, .tmp 6]) rfl (by simp) (.cell (w.heap.size + 1) 24 _ _ _ rfl (set3 HP.out.1) Tryz.underlying24 rfl (by kernel_rfl) (.tmp (.tmp .nil)))) rfl
      ⟨_, _, rfl, Nat.le_refl _, RdF.nil _ _, ((HP.out.2.setCell (by simp) _).setCell (by simp) _).setCell (by simp) _⟩
  case pos =>
  have HG := Lib.hid (plainE_good.1 hG)
  have HF0 := Lib.hid (show FollowR c l = followR c l by unfold FollowR; rw [if_pos hG])
  rw [hG]
  clear hG
  by_cases h1 : 400 < l.length
  · have h1' : (400 : Int) < (l.length : Int) := by omega
    have HP := Lib.hid (And.intro p1 hb02)
    go_wp2
    rw [HF0.out, show followR c l = (2, zeroC, 0) by unfold followR; rw [if_pos h1]]
    exact bodyPost_ret (results_list (rs := [.cell 4 24, .tmp 5, .tmp 6]) rfl (by simp) (.cell (w.heap.size + 1) 24 _ _ _ rfl (set3 HP.out.1) Tryz.underlying24 rfl (by kernel_rfl) (.tmp (.tmp .nil)))) rfl
      ⟨_, _, rfl, Nat.le_refl _, RdF.nil _ _, ((HP.out.2.setCell (by simp) _).setCell (by simp) _).setCell (by simp) _⟩
  have h1' : ¬ (400 : Int) < (l.length : Int) := by omega
  have HF := Lib.hid (show FollowR c l = followS c 0 l by rw [HF0.out]; unfold followR; rw [if_neg h1])
  clear h1 HF0
  have hgl := HG.out.len
  have ho := rOwn_any A c.gates.length k c.gates w2 (HH.out.1.bG hb02) rfl HG.out.wires (by omega)
  go_wp2_with fail
  refine ho.mono ?_
  clear ho
  rintro e w3 ⟨v, rfl, ho, hb⟩
  obtain ⟨A3, c3, rfl, hfm⟩ := ho.form'
  clear hfm
  obtain ⟨hrf, hc3⟩ := ho.rdF (by omega) (fun g hg => by have := HG.out.wires g hg; omega)
  have hb03 := hb02.trans (hb.mono hb02.size)
  have hz2 := hb02.size
  have hl2 := blk_lt p1
  have hrf2 : RdF (w.heap.size + 2) w3 A3 c.gates := hrf.move (by omega) (Nat.le_refl _) (fun _ _ _ => rfl)
  replace p0 := blk2 hb p0
  replace p1 := blk2 hb p1
  clear hb hb02 ho hrf a0 a1 a2 af r0 r1 r2 rf
  obtain ⟨a0, a1, a2, af⟩ := cells3 p0
  go_upto_region 7 with fail
  obtain ⟨W4, hW4⟩ : ∃ W4, w3.setCell ⟨w.heap.size, 2, none⟩ (.slice A3 c.gates.length c3) = W4 := ⟨_, rfl⟩
  rw [hW4]
  have HS := Lib.hid (show FollowR c l = followS c 0 (l.drop 0) ∧ Good c ∧ W4.heap[w.heap.size]? = some (.cells #[.int .i64 c.wires, .int .i64 c.bits, .slice A3 c.gates.length c3] 24 (0, 0)) ∧ W4.heap[w.heap.size + 1]? = some (.cells #[.int .i64 0, .int .i64 0, .slice none 0 0] 24 (0, 0)) ∧ c.gates.length ≤ c3 ∧ RdF (w.heap.size + 2) W4 A3 c.gates ∧ Below w.heap.size w W4 from
    ⟨HF.out, HG.out, by rw [← hW4]; exact heap_setCell_same _ _ 2 _ _ _ p0, by rw [← hW4]; exact (heap_setCell_other _ _ _ _ (by simp)).trans p1, hc3, by rw [← hW4]; exact hrf2.move (Nat.le_refl _) (by simp) (fun k hk _ => heap_setCell_other _ _ _ _ (by simp; omega)), by rw [← hW4]; exact hb03.setCell (Nat.le_refl _) _⟩)
  clear hW4 p0 p1 a0 a1 a2 af hrf2 hb03 hc3 hz2 hl2
  go_wp2
  go_loopw [8, 10, 11, 12, 13, 30] (fun ph _ _ _ _ i wr => ∃ (j : Nat) (cc : C) (p : Int) (A3 : Option Addr) (c3 : Nat), j ≤ l.length ∧ i = .int .i64 j ∧ ph = .int .i64 p ∧ 0 ≤ p ∧ p < 8 ∧ Hid (FollowR c l = followS cc p (l.drop j) ∧ Good cc ∧ wr.heap[w.heap.size]? = some (.cells #[.int .i64 cc.wires, .int .i64 cc.bits, .slice A3 cc.gates.length c3] 24 (0, 0)) ∧ wr.heap[w.heap.size + 1]? = some (.cells #[.int .i64 0, .int .i64 0, .slice none 0 0] 24 (0, 0)) ∧ cc.gates.length ≤ c3 ∧ RdF (w.heap.size + 2) wr A3 cc.gates ∧ Below w.heap.size w wr)) (fun _ _ _ _ _ i _ => l.length - (intOf i).toNat)
  case atStart => exact ⟨0, c, 0, A3, c3, Nat.zero_le _, rfl, rfl, by omega, by omega, HS⟩
  case round =>
    clear HS
    obtain ⟨j, cc, p, A3, c3, hj, rfl, rfl, hp0, hp8, HI⟩ := hrel
    by_cases hlt : j < l.length
    · obtain ⟨e1, e2, e3, e4, e5, e6, e7⟩ := HI.out
      obtain ⟨b0, o0, B2, d2, hB0, k0, k1, k2, k3, hd2, hr2⟩ := (HH.out.2.bM e7).move j hlt
      obtain ⟨s, hs⟩ : ∃ s, l[j] = s := ⟨_, rfl⟩
      rw [hs] at k0 k1 k2 k3 hd2 hr2
      subst hB0
      obtain ⟨y0, y1, y2, yf⟩ := cells3 e3
      have hbl := blk_lt e3
      have hlt1 := blk_lt e4
      have HD := Lib.hid (show followS cc p (l.drop j) = if (applyR cc s).1 = 0 then followS (applyR cc s).2.1 ((p + (applyR cc s).2.2) % 8) (l.drop (j + 1)) else ((applyR cc s).1, zeroC, 0) by
        rw [drop_cons l j hlt, hs]; rfl)
      have hx2 : ∀ o, Below wr.heap.size wr (wr.alloc o) := fun o => by (repeat (first|exact bR _ _|assumption|apply bN|apply bA|apply bD))
      have HR := Lib.hid (And.intro hr2 (And.intro e6.rd (And.intro e5 (And.intro hx2 hd2))))
      have lb := cell_lt k0
      have hold := olds wr
      clear hs hr2 e1 e2 e3 e4 e5 e6 e7 hx2 hd2
      go_wp2_with fail
      refine (rDone_any A3 B2 c3 d2 cc s _ (HR.out.2.1.bG (HR.out.2.2.2.1 _)) HR.out.2.2.1 (HR.out.1.bI (HR.out.2.2.2.1 _)) HR.out.2.2.2.2 HI.out.2.1).mono ?_
      obtain ⟨⟨er, c2, ph⟩, hx⟩ : ∃ x, applyR cc s = x := ⟨_, rfl⟩
      rw [hx]
      rintro e w2 ⟨A9, c9, rfl, hc9, hrf, hb⟩
      dsimp only at hc9 hrf
      have hbr := (HR.out.2.2.2.1 _).trans (hb.mono (by simp))
      have q1 := blk2 hbr HI.out.2.2.1
      have q2 := blk2 hbr HI.out.2.2.2.1
      obtain ⟨z0, z1, z2, zf⟩ := cells3 q1
      obtain ⟨r0, r1, r2, rf⟩ := cells3 q2
      have hbw2 := HI.out.2.2.2.2.2.2.trans (hbr.mono HI.out.2.2.2.2.2.2.size)
      have hsz2 := hbr.size
      have hrf2 : RdF (w.heap.size + 2) w2 A9 c2.gates := hrf.move (by simp; omega) (Nat.le_refl _) (fun _ _ _ => rfl)
      have HO := Lib.hid (And.intro q1 (And.intro q2 (And.intro hrf2 (And.intro hbw2 hc9))))
      have hl2 := blk_lt q2
      have hl3 := blk_lt q1
      have hold2 := olds w2
      have hm1 : (w2.heap.size = w.heap.size + 1) = False := by simp; omega
      have hm2 : (w2.heap.size = w.heap.size) = False := by simp; omega
      clear hb q1 q2 hrf hrf2 hbw2 hbr hc9 k0 k1 k2 k3 y0 y1 y2 yf hold
      by_cases he : er = 0
      · subst he
        have HF2 := Lib.hid (show followS cc p (l.drop j) = followS c2 ((p + ph) % 8) (l.drop (j + 1)) by
          rw [HD.out, hx]
          dsimp only
          rw [if_pos rfl])
        have hgd := step_good HI.out.2.1 hx
        have hph := applyR_phase (c := cc) (s := s) (by rw [hx])
        rw [hx] at hph
        dsimp only at hph
        obtain ⟨hph1, hph2⟩ := hph
        have HG2 := Lib.hid hgd.1
        clear hx hgd
        have hwr : IntKind.i64.wrap (p + ph) = p + ph := IntWalk.i64_in _ (by omega)
        have hmd : (p + ph).tmod 8 = (p + ph) % 8 := by rw [Int.tmod_eq_emod_of_nonneg (by omega)]
        have hwr2 : IntKind.i64.wrap ((p + ph) % 8) = (p + ph) % 8 := IntWalk.i64_in _ (by omega)
        dsimp only
        go_wp2
        go_roundw
        case rel =>
          have hne : w.heap.size + 1 ≠ w.heap.size := by omega
          refine ⟨j + 1, c2, (p + ph) % 8, A9, c9, by omega, by go_num, rfl, by omega, by omega, Lib.hid ⟨HI.out.1.trans HF2.out, HG2.out, alloc_old (set3 HO.out.1), alloc_old ((heap_setCell_other _ _ _ _ hne).trans ((heap_setCell_other _ _ _ _ hne).trans ((heap_setCell_other _ _ _ _ hne).trans HO.out.2.1))), HO.out.2.2.2.2, ?_, ?_⟩⟩
          · exact (HO.out.2.2.1.set3 (Nat.le_refl _) (by omega) _ _ _).below (below_alloc (Below.refl _ _) _)
          · exact below_alloc (((HO.out.2.2.2.1.setCell (by first|(simp;done)|(simp;omega)|omega) _).setCell (by first|(simp;done)|(simp;omega)|omega) _).setCell (by first|(simp;done)|(simp;omega)|omega) _) _
        case measure => simp [intOf]; omega
      · have he1 : (er != 0) = true := by simpa using he
        have HF2 := Lib.hid (show FollowR c l = (er, zeroC, 0) by
          rw [HI.out.1, HD.out, hx]
          dsimp only
          rw [if_neg he])
        clear hx he
        dsimp only
        go_wp2
        rw [HF2.out]
        refine bodyPost_ret (results_list (rs := [.cell 4 24, .tmp 5, .tmp 6]) rfl (by simp) (.cell (w.heap.size + 1) 24 _ _ _ rfl (alloc_old (set3 HO.out.2.1)) Tryz.underlying24 rfl (by kernel_rfl) (.tmp (.tmp .nil)))) rfl
          ⟨_, _, rfl, Nat.le_refl _, RdF.nil _ _, ?_⟩
        exact below_alloc (((HO.out.2.2.2.1.setCell (by first|(simp;done)|(simp;omega)|omega) _).setCell (by first|(simp;done)|(simp;omega)|omega) _).setCell (by first|(simp;done)|(simp;omega)|omega) _) _
    · obtain ⟨e1, e2, e3, e4, e5, e6, e7⟩ := HI.out
      obtain ⟨y0, y1, y2, yf⟩ := cells3 e3
      obtain ⟨r0, r1, r2, rf⟩ := cells3 e4
      have HO := Lib.hid (And.intro e4 (And.intro e6 (And.intro e7 e5)))
      have HF2 := Lib.hid (show FollowR c l = (0, cc, p) by rw [e1, drop_end l j (by omega)]; rfl)
      clear e1 e2 e3 e4 e5 e6 e7
      go_wp2
      rw [HF2.out]
      refine bodyPost_ret (results_list (rs := [.cell 4 24, .tmp 5, .tmp 6]) rfl (by simp) (.cell (w.heap.size + 1) 24 _ _ _ rfl (set3 HO.out.1) Tryz.underlying24 rfl (by kernel_rfl) (.tmp (.tmp .nil)))) rfl
        ⟨A3, c3, rfl, HO.out.2.2.2, ?_, ?_⟩
      · exact (HO.out.2.1.set3 (Nat.le_refl _) (by omega) _ _ _).move (by omega) (Nat.le_refl _) (fun _ _ _ => rfl)
      · exact ((HO.out.2.2.1.setCell (by first|(simp;done)|(simp;omega)|omega) _).setCell (by first|(simp;done)|(simp;omega)|omega) _).setCell (by first|(simp;done)|(simp;omega)|omega) _
end Go.Proofs.YtfommmijojfdbaaGreatDoor
