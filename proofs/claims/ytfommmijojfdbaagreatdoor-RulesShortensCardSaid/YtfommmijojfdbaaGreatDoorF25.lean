/- The reference's rules: Shorten. -/
import Derived.Test.YtfommmijojfdbaaGreatDoorF24
import Derived.Test.YtfommmijojfdbaaGreatDoorZ40
set_option linter.all false
namespace Go.Proofs.YtfommmijojfdbaaGreatDoor
open Go.RowKit

theorem shortest_step {c d : C} {s : M} (hG : Good c) (h : shortest c = some (s, d)) : (∃ p, applyR c s = (0, d, p)) ∧ Good d ∧ d.gates.length < c.gates.length ∧ s.wires.length ≤ 3 := by
  rw [shortest_43] at h
  obtain ⟨i, hi, hf⟩ := List.exists_of_findSome?_eq_some h
  rw [List.mem_range] at hi
  unfold lessF at hf
  split at hf
  · rename_i hl
    have hm : (s, d) ∈ stepsL c i false := List.mem_of_mem_head? (by rw [hf]; rfl)
    obtain ⟨h1, h2, h3, ⟨p, h4⟩, h5, h6⟩ := stepsL_good (by omega) (by unfold fitB; simp) hG _ hm
    exact ⟨⟨p, by unfold applyR; rw [if_pos h1]; exact h4⟩, h6, steps_less (by omega) hl hG hm, h5⟩
  · cases hf
theorem shortenL_len : ∀ (f : Nat) (c : C), (shortenL f c).length ≤ f
  | 0, _ => by simp [shortenL]
  | f + 1, c => by
    unfold shortenL
    split
    · simp
    · have := shortenL_len f
      simp
      exact this _
theorem shortenL_wires : ∀ (f : Nat) (c : C), Good c → ∀ s ∈ shortenL f c, s.wires.length ≤ 3
  | 0, _, _, s, h => by cases h
  | f + 1, c, hG, s, h => by
    unfold shortenL at h
    split at h
    · cases h
    · rename_i s' d hs
      obtain ⟨_, h2, _, h4⟩ := shortest_step hG hs
      rcases List.mem_cons.1 h with rfl | h
      · exact h4
      · exact shortenL_wires f d h2 s h
theorem ShortenR_small (c : C) : (ShortenR c).2.length ≤ 300000 ∧ ∀ s ∈ (ShortenR c).2, s.wires.length ≤ 3 := by
  unfold ShortenR
  split
  · rename_i h
    have hG := plainE_good.1 h
    have h1 := shortenL_len (c.gates.length + 1) c
    have h2 := hG.len
    exact ⟨by dsimp only; omega, shortenL_wires _ _ hG⟩
  · exact ⟨by simp, fun s hs => by cases hs⟩
/-- Gates that are read whatever becomes of the blocks from w's end up to n. -/
def RdZ (w : World) (n : Nat) (W : World) (A : Option Addr) (gs : List G) : Prop := w.heap.size < n ∧ (RdG w A gs ∨ RdF n W A gs)
section
variable {w W W' : World} {n : Nat} {A : Option Addr} {gs : List G}
theorem RdZ.rd (h : RdZ w n W A gs) (hb : Below w.heap.size w W) : RdG W A gs := h.2.elim (fun h => h.bG hb) RdF.rd
theorem RdZ.below (h : RdZ w n W A gs) (hb : Below W.heap.size W W') : RdZ w n W' A gs := ⟨h.1, h.2.imp id fun h => h.below hb⟩
theorem RdZ.grow (h : RdZ w n W A gs) {row : Option Nat} (hg : W.grownBy W' row) (hr : ∀ k, row = some k → k < n) : RdZ w n W' A gs :=
  ⟨h.1, h.2.imp id fun h => h.move (Nat.le_refl _) hg.size fun k hk hl => hg.block k hl fun e => by have := hr k e.symm; omega⟩
end

theorem App.setM3' {ti tm B B' : Nat} {W : World} {v : Value} {xs : List M} (h : App (EMo ti B) tm 4 B' W v xs) {b : Nat} {x0 x1 x2 u0 u1 u2 : Value} {T' : TypeId} (hb : W.heap[b]? = some (.cells #[x0, x1, x2] T' (0, 0))) (h1 : ti ≠ T') (h2 : tm ≠ T') :
    App (EMo ti B) tm 4 B' (((W.setCell ⟨b, 0, none⟩ u0).setCell ⟨b, 1, none⟩ u1).setCell ⟨b, 2, none⟩ u2) v xs :=
  ((h.setT hb h2 (EMo.setT hb h1)).setT (heap_setCell_same _ _ 0 _ _ _ hb) h2 (EMo.setT (heap_setCell_same _ _ 0 _ _ _ hb) h1)).setT (heap_setCell_same _ _ 1 _ _ _ (heap_setCell_same _ _ 0 _ _ _ hb)) h2 (EMo.setT (heap_setCell_same _ _ 1 _ _ _ (heap_setCell_same _ _ 0 _ _ _ hb)) h1)
set_option maxRecDepth 1000000 in
set_option maxHeartbeats 8000000 in
theorem rShorten19_any (A : Option Addr) (k : Nat) (c : C) (w : World) (h : RdG w A c.gates) (hk : c.gates.length ≤ k) :
    Calls Tryz.prog 32 #[.agg #[.int .i64 c.wires, .int .i64 c.bits, .slice A c.gates.length k]] w (RetS (ShortenR c) w) := by
  have HH := Lib.hid h
  clear h
  go_enter Tryz.func32, Tryz.ntmps32
  go_upto_region 1 with fail
  obtain ⟨W1, hW1⟩ : ∃ W1, w.alloc (.cells #[.int .i64 c.wires, .int .i64 c.bits, .slice A c.gates.length k] 24) = W1 := ⟨_, rfl⟩
  have hb1 : Below w.heap.size w W1 := by rw [← hW1]; exact bl
  have p0 : W1.heap[w.heap.size]? = some (.cells #[.int .i64 c.wires, .int .i64 c.bits, .slice A c.gates.length k] 24 (0, 0)) := by rw [← hW1]; exact blk_alloc _ _ _ rfl
  rw [hW1]
  clear hW1
  obtain ⟨a0, a1, a2, af⟩ := cells3 p0
  have hp := rPlain19_any A k c W1 (HH.out.bG hb1) hk
  go_wp2_with fail
  refine hp.mono ?_
  clear hp
  rintro e w2 ⟨rfl, hb⟩
  have hb2 := hb1.trans (hb.mono hb1.size)
  have p2 := blk2 hb p0
  clear hb hb1 p0 a0 a1 a2 af
  by_cases hG : plainE c = 0
  case neg =>
    have hne : (plainE c == 0) = false := by simpa using hG
    have hne2 : (plainE c != 0) = true := by simpa using hG
    have HX := Lib.hid (show ShortenR c = (plainE c, []) by unfold ShortenR; rw [if_neg hG])
    have HB := Lib.hid hb2
    obtain ⟨q, hq⟩ : ∃ q, plainE c = q := ⟨_, rfl⟩
    rw [hq] at hne hne2 HX ⊢
    clear hq hG hb2 p2
    go_wp2
    go_ret2
    exact ⟨_, by rw [HX.out]; rfl, by rw [HX.out]; exact App.nil _ _ _ _ _, HB.out⟩
  case pos =>
  have hcl := (plainE_good.1 hG).len
  have HX := Lib.hid (show ShortenR c = (0, shortenL (c.gates.length + 1) c) by unfold ShortenR; rw [if_pos hG])
  have hz := blk_lt p2
  have HS := Lib.hid (show Good c ∧ c.gates.length < c.gates.length + 1 ∧ shortenL (c.gates.length + 1) c = [] ++ shortenL (c.gates.length + 1) c ∧ w2.heap[w.heap.size]? = some (.cells #[.int .i64 c.wires, .int .i64 c.bits, .slice A c.gates.length k] 24 (0, 0)) ∧ c.gates.length ≤ k ∧ RdZ w w2.heap.size w2 A c.gates ∧ App (EMo 3 (w.heap.size + 1)) 27 4 (w.heap.size + 1) w2 (.slice none 0 0) [] ∧ Below w.heap.size w w2 ∧ ∀ q, (Value.slice none 0 0).ownBlock = some q → q < w2.heap.size from
    ⟨plainE_good.1 hG, by omega, rfl, p2, hk, ⟨hz, .inl HH.out⟩, App.nil _ _ _ _ _, hb2, fun q h => by simp [Value.ownBlock] at h⟩)
  rw [hG]
  clear hG p2 hb2
  go_wp2
  go_loopw [5, 6, 7] (fun v _ _ wr => ∃ (cc : C) (A9 : Option Addr) (d9 f n : Nat) (outs : List M), outs.length + cc.gates.length ≤ c.gates.length ∧ Hid (Good cc ∧ cc.gates.length < f ∧ shortenL (c.gates.length + 1) c = outs ++ shortenL f cc ∧ wr.heap[w.heap.size]? = some (.cells #[.int .i64 cc.wires, .int .i64 cc.bits, .slice A9 cc.gates.length d9] 24 (0, 0)) ∧ cc.gates.length ≤ d9 ∧ RdZ w n wr A9 cc.gates ∧ App (EMo 3 (w.heap.size + 1)) 27 4 (w.heap.size + 1) wr v outs ∧ Below w.heap.size w wr ∧ ∀ q, v.ownBlock = some q → q < n)) (fun _ _ _ wr => cLen w.heap.size wr)
  case atStart => exact ⟨c, A, k, c.gates.length + 1, w2.heap.size, [], by simp, HS⟩
  case round =>
    clear HS hz w2
    obtain ⟨cc, A9, d9, f, n, outs, hol, HI⟩ := hrel
    rename World => wr
    obtain ⟨i1, i2, i3, i4, i5, i6, i7, i8, _⟩ := HI.out
    obtain ⟨A6, c6, rfl, _⟩ := i7.form
    obtain ⟨a0, a1, a2, af⟩ := cells3 i4
    have la := blk_lt i4
    have hgl := i1.len
    have HLW := Lib.hid (cLen_of i4)
    have hc := rShorter_any A9 d9 cc wr (i6.rd i8) i5 i1
    have hown : ∀ q, (Value.slice A6 outs.length c6).ownBlock = some q → q < wr.heap.size := fun q e => by
      rcases i7.block with h | ⟨k', h, _, h'⟩
      · rw [h] at e; cases e
      · rw [h] at e; cases e; exact h'
    have HOW := Lib.hid hown
    clear i2 i3 i4 i5 i6 i7 i8 hown
    go_wp2_with fail
    refine hc.mono ?_
    clear hc
    rintro e w3 ⟨v, rfl, hv, hb⟩
    obtain ⟨B4, d4, rfl, hd4⟩ := hv.form
    have hz3 := hb.size
    have hb4 : Below wr.heap.size wr (w3.alloc (.cells #[.int .i64 (shS cc).rule, .int .i64 (shS cc).at_, .bool (shS cc).back, .slice B4 (shS cc).wires.length d4] 27)) := below_alloc hb _
    go_upto_region 6 with fail
    obtain ⟨W4, hW4⟩ : ∃ W4, w3.alloc (.cells #[.int .i64 (shS cc).rule, .int .i64 (shS cc).at_, .bool (shS cc).back, .slice B4 (shS cc).wires.length d4] 27) = W4 := ⟨_, rfl⟩
    have x4 : W4.heap[w3.heap.size]? = some (.cells #[.int .i64 (shS cc).rule, .int .i64 (shS cc).at_, .bool (shS cc).back, .slice B4 (shS cc).wires.length d4] 27 (0, 0)) := by rw [← hW4]; exact blk_alloc _ _ _ rfl
    have hv4 : App EI 3 1 wr.heap.size W4 (.slice B4 (shS cc).wires.length d4) (shS cc).wires := by rw [← hW4]; exact hv.alloc EI.stays _
    rw [hW4] at hb4 ⊢
    clear hW4 hb hv a0 a1 a2 af
    obtain ⟨j1, j2, j3, j4, j5, j6, j7, j8, j9⟩ := HI.out
    have HJ := Lib.hid (show Good cc ∧ cc.gates.length < f ∧ shortenL (c.gates.length + 1) c = outs ++ shortenL f cc ∧ W4.heap[w.heap.size]? = some (.cells #[.int .i64 cc.wires, .int .i64 cc.bits, .slice A9 cc.gates.length d9] 24 (0, 0)) ∧ cc.gates.length ≤ d9 ∧ RdZ w n W4 A9 cc.gates ∧ App (EMo 3 (w.heap.size + 1)) 27 4 (w.heap.size + 1) W4 (.slice A6 outs.length c6) outs ∧ Below w.heap.size w W4 ∧ ∀ q, (Value.slice A6 outs.length c6).ownBlock = some q → q < n from
      ⟨j1, j2, j3, blk2 hb4 j4, j5, j6.below hb4, j7.below (EMo.stays _ _) hb4, j8.trans (hb4.mono j8.size), j9⟩)
    clear j1 j2 j3 j4 j5 j6 j7 j8 j9 HI
    cases hsh : shortest cc with
    | none =>
      have HN := Lib.hid (show shortenL (c.gates.length + 1) c = outs by
        obtain ⟨f', rfl⟩ : ∃ f', f = f' + 1 := ⟨f - 1, by have := HJ.out.2.1; omega⟩
        rw [HJ.out.2.2.1, shortenL, hsh, List.append_nil])
      clear hsh hb4 hv4 x4
      simp only [Option.isSome_none]
      go_wp2
      go_ret2
      obtain ⟨j1, j2, j3, j4, j5, j6, j7, j8, _⟩ := HJ.out
      exact ⟨_, by rw [HX.out]; rfl, by rw [HX.out, HN.out]; exact j7.imp (by omega) fun x cs ⟨v, e, hv⟩ => ⟨v, e, hv.imp (by omega) fun _ _ h => h⟩, j8⟩
    | some x =>
      obtain ⟨s, d⟩ := x
      have e1 : shS cc = s := by unfold shS; rw [hsh]; rfl
      obtain ⟨⟨ph, hap⟩, hGd, hdl, hsw⟩ := shortest_step HJ.out.1 hsh
      rw [e1] at hv4 x4 hd4 ⊢
      obtain ⟨B4', d4', e4, _, hr4⟩ := hv4.rd (by omega)
      cases e4
      have HN := Lib.hid (show Good d ∧ applyR cc s = (0, d, ph) ∧ ∃ f', f = f' + 1 ∧ shortenL (c.gates.length + 1) c = (outs ++ [s]) ++ shortenL f' d by
        obtain ⟨f', rfl⟩ : ∃ f', f = f' + 1 := ⟨f - 1, by have := HJ.out.2.1; omega⟩
        refine ⟨hGd, hap, f', rfl, ?_⟩
        rw [HJ.out.2.2.1, shortenL, hsh]
        simp)
      have HV := Lib.hid (And.intro hv4 (And.intro hr4 x4))
      obtain ⟨b0, b1, b2, b3, bf⟩ := cells4 x4
      have lb := blk_lt x4
      have hold := olds W4
      have hzw := hb4.size
      clear e1 hsh hap hGd hv4 hr4 x4 hb4
      simp only [Option.isSome_some]
      have hout : outs.length ≤ 120 := by omega
      go_wp2_with (at_builtin; refine wp_app (E := EMo 3 (w.heap.size + 1)) (W := W4) 27 4 (w.heap.size + 1) rfl _ _ 30 (.agg #[.int .i64 0, .int .i64 0, .bool false, .slice none 0 0]) 48 rfl Tryz.underlying30 (by kernel_rfl) rfl (by decide) (by decide) (.slice A6 outs.length c6) outs s [.int .i64 s.rule, .int .i64 s.at_, .bool s.back, .slice B4 s.wires.length d4] rfl rfl rfl (by simp [Value.oneCell']) ⟨_, rfl, HV.out.1.imp (by omega) fun _ _ h => h⟩ HJ.out.2.2.2.2.2.2.1 (by omega) (by omega) (fun w1 n cs hown hg x cs ⟨v, e, hv⟩ => ⟨v, e, hv.other hown hg (by decide)⟩) ?_; intro v5 w5 ho5 hg5; obtain ⟨A7, c7, hv7, _⟩ := ho5.form; rw [List.length_append, List.length_singleton] at hv7; subst hv7; have HG5 := Lib.hid (And.intro ho5 hg5); have q0 := (hg5.block w.heap.size (blk_lt HJ.out.2.2.2.1) (fun e => ownNe HJ.out.2.2.2.2.2.2.1 HJ.out.2.2.2.1 (by decide) e.symm)).trans HJ.out.2.2.2.1; have q4 := (hg5.block w3.heap.size (blk_lt HV.out.2.2) (fun e => by have := HOW.out _ e.symm; omega)).trans HV.out.2.2; obtain ⟨a0, a1, a2, af⟩ := cells3 q0; obtain ⟨e0, e1, e2, e3, ef⟩ := cells4 q4; have hz5 := hg5.size; have HQ := Lib.hid q0; clear ho5 hg5 q0 q4)
      obtain ⟨j1, j2, j3, j4, j5, j6, j7, j8, j9⟩ := HJ.out
      have hb5 : Below w.heap.size w w5 := j7.grows HG5.out.2 j8 (by omega) (by omega)
      have z5 := j6.grow HG5.out.2 fun k e => j9 k e
      obtain ⟨cs, hown, _⟩ := j7
      obtain ⟨B4', d4', e4, _, hr5⟩ := (HV.out.1.other hown HG5.out.2 (by decide)).rd (by omega)
      cases e4
      have hc := rDone_any A9 B4 d9 d4 cc s w5 (z5.rd hb5) j5 hr5 hd4 j1
      rw [HN.out.2.1] at hc
      have HB5 := Lib.hid hb5
      clear j1 j2 j3 j4 j5 j6 j8 j9 z5 hb5 hown hr5
      refine hc.mono ?_
      clear hc
      rintro e w6 ⟨A10, c10, rfl, hc10, hrf, hb6⟩
      dsimp only at hrf hc10 ⊢
      have q6 := blk2 hb6 HQ.out
      have hb26 := HB5.out.trans (hb6.mono HB5.out.size)
      have HR := Lib.hid (And.intro q6 (And.intro hrf (And.intro hb26 hb6)))
      clear a0 a1 a2 af e0 e1 e2 e3 ef
      obtain ⟨a0, a1, a2, af⟩ := cells3 q6
      have la6 := blk_lt q6
      clear q6 hrf hb26 hb6
      go_wp2
      go_roundw
      case rel =>
        obtain ⟨n1, n2, f', rfl, n4⟩ := HN.out
        have hlt := HJ.out.2.1
        have hs5 := HB5.out.size
        refine ⟨d, A10, c10, f', w5.heap.size, outs ++ [s], by simp; omega, Lib.hid ⟨n1, by omega, n4, set3 HR.out.1, hc10, ⟨by omega, .inr (HR.out.2.1.set3 (Nat.le_refl _) (by omega) _ _ _)⟩, (HG5.out.1.below (EMo.stays _ _) HR.out.2.2.2).setM3' HR.out.1 (by decide) (by decide), ((HR.out.2.2.1.setCell (Nat.le_refl _) _).setCell (Nat.le_refl _) _).setCell (Nat.le_refl _) _, fun q e => ?_⟩⟩
        rcases HG5.out.1.block with h | ⟨k', h, _, h'⟩
        · rw [h] at e; cases e
        · rw [h] at e; cases e; exact h'
      case measure =>
        rw [cLen_of (set3 HR.out.1), HLW.out]
        exact hdl
end Go.Proofs.YtfommmijojfdbaaGreatDoor
