/- Part 29 of the proof that 'spoondriftlaw19.RulesApplies' holds for every input; it has no condition beyond the statement's own. -/
import Derived.Test.YtfommmijojfdbaaGreatDoorZ26
import Derived.Test.YtfommmijojfdbaaGreatDoorZ17
import Derived.Test.YtfommmijojfdbaaGreatDoorZ05
set_option linter.all false
namespace Go.Proofs.YtfommmijojfdbaaGreatDoor
open Go.RowKit
theorem Laid.unb {w : World} (h : Laid w) : w.cell? ⟨1, 0, none⟩ = some (.int .i64 (-1)) ∧ w.cell? ⟨1, 1, none⟩ = some (.int .i64 (-1)) ∧ w.cell? ⟨1, 2, none⟩ = some (.int .i64 (-1)) :=
  ⟨h.unbound.cell (g := 1) (by kernel_rfl) 0 (by decide), h.unbound.cell (g := 1) (by kernel_rfl) 1 (by decide), h.unbound.cell (g := 1) (by kernel_rfl) 2 (by decide)⟩
theorem row3 {W : World} {b : Nat} {b0 b1 b2 : Int} {T : TypeId} (h : W.heap[b]? = some (.cells #[.int .i64 b0, .int .i64 b1, .int .i64 b2] T (0, 0))) :
    RdI W (some ⟨b, 0, none⟩) [b0, b1, b2] := by
  refine ⟨by simp, fun k x hx => ⟨b, 0, [.int .i64 x], rfl, rfl, rfl, fun i u hu => ?_⟩⟩
  have hi : i = 0 := by have := (List.getElem?_eq_some_iff.1 hu).1; simpa using this
  subst hi
  cases hu
  obtain ⟨c0, c1, c2, _⟩ := cells3 h
  rcases k with _ | _ | _ | k
  · cases hx; simpa using c0
  · cases hx; simpa using c1
  · cases hx; simpa using c2
  · simp at hx
theorem cell3 {W : World} {b k : Nat} {b0 b1 b2 : Int} {T : TypeId} (h : W.heap[b]? = some (.cells #[.int .i64 b0, .int .i64 b1, .int .i64 b2] T (0, 0))) (hk : k < 3) :
    W.cell? ⟨b, k, none⟩ = some (.int .i64 ([b0, b1, b2].getD k 0)) := by
  obtain ⟨c0, c1, c2, _⟩ := cells3 h
  rcases (show k = 0 ∨ k = 1 ∨ k = 2 by omega) with rfl | rfl | rfl
  · exact c0
  · exact c1
  · exact c2
theorem set3at {W : World} {b k : Nat} {b0 b1 b2 y : Int} {T : TypeId} (h : W.heap[b]? = some (.cells #[.int .i64 b0, .int .i64 b1, .int .i64 b2] T (0, 0))) (hk : k < 3) :
    ∃ x0 x1 x2, [b0, b1, b2].set k y = [x0, x1, x2] ∧ (W.setCell ⟨b, k, none⟩ (.int .i64 y)).heap[b]? = some (.cells #[.int .i64 x0, .int .i64 x1, .int .i64 x2] T (0, 0)) := by
  rcases (show k = 0 ∨ k = 1 ∨ k = 2 by omega) with rfl | rfl | rfl
  · exact ⟨y, b1, b2, rfl, heap_setCell_same _ _ 0 _ _ _ h⟩
  · exact ⟨b0, y, b2, rfl, heap_setCell_same _ _ 1 _ _ _ h⟩
  · exact ⟨b0, b1, y, rfl, heap_setCell_same _ _ 2 _ _ _ h⟩
def RetB (x : Option (List Int)) (w : World) (e : Ending) (w' : World) : Prop :=
  ∃ b0 b1 b2 q, e = .returned (.tuple #[.agg #[.int .i64 b0, .int .i64 b1, .int .i64 b2], .bool q]) ∧ x = (if q = true then some [b0, b1, b2] else none) ∧ Below w.heap.size w w'
theorem Contains_is (A : Option Addr) (n c : Nat) (xs : List Int) (x : Int) (w : World) (h : RdI w A xs) (hn : xs.length = n) (q : Bool) (hq : decide (x ∈ xs) = q) :
    Calls Tryz.prog 117 #[.slice A n c, .int .i64 x] w fun e w' => e = .returned (.bool q) ∧ w = w' := by
  subst hq
  exact Contains_n A n c xs x w h hn
theorem bindW_drop {b xs ys : List Int} {m : Nat} (h1 : m < xs.length) (h2 : m < ys.length) : bindW b (xs.drop m) (ys.drop m) = if b.getD xs[m].toNat 0 < 0 ∧ ¬ ys[m] ∈ b then bindW (b.set xs[m].toNat ys[m]) (xs.drop (m + 1)) (ys.drop (m + 1)) else if b.getD xs[m].toNat 0 ≠ ys[m] then none else bindW b (xs.drop (m + 1)) (ys.drop (m + 1)) := by
  rw [drop_cons xs m h1, drop_cons ys m h2, bindW]
theorem bindG_drop {b : List Int} {xs ys : List G} {m n : Nat} (h1 : m < xs.length) (h2 : n < ys.length) : bindG b (xs.drop m) (ys.drop n) = if xs[m].kind ≠ ys[n].kind then none else match bindW b xs[m].wires ys[n].wires with | some b' => bindG b' (xs.drop (m + 1)) (ys.drop (n + 1)) | none => none := by
  rw [drop_cons xs m h1, drop_cons ys n h2, bindG]
  rfl
theorem z28t0 {p : Prop} (h : p := by
  exact bodyPost_ret (results_list (rs := [.cell 6 157, .tmp 7]) rfl (by simp) (.cell (w.heap.size + 1) 157 _ _ _ rfl (set3 HP.out.1) Tryz.underlying157 rfl (by kernel_rfl) (.tmp .nil))) rfl ⟨_, _, _, false, rfl, rfl, ((HP.out.2.setCell (by first|(simp;done)|(simp;omega)|omega) _).setCell (by first|(simp;done)|(simp;omega)|omega) _).setCell (by first|(simp;done)|(simp;omega)|omega) _⟩) : p := h
set_option maxRecDepth 1000000 in
set_option maxHeartbeats 8000000 in
theorem binds_any (A LA : Option Addr) (k lc : Nat) (c : C) (l : List G) (at_ : Nat) (w : World) (HT : Hid (Laid w)) (h : RdG w A c.gates) (hk : c.gates.length ≤ k) (h' : RdG w LA l) (hG : Good c) (hat : at_ ≤ c.gates.length) (hll : l.length ≤ 20) (hlw : ∀ g ∈ l, goodG 3 g) :
    Calls Tryz.prog 118 #[.agg #[.int .i64 c.wires, .int .i64 c.bits, .slice A c.gates.length k], .slice LA l.length lc, .int .i64 at_] w (RetB (bindsR c l at_) w) := by
  have hlen := hG.len
  have HH := Lib.hid (And.intro h (And.intro h' (And.intro (good_iff.1 hG).2.2 hlw)))
  have hu := HT.out.unb
  obtain ⟨u0, u1, u2⟩ := hu
  have hul := cell_lt u0
  have hold0 := olds w
  clear h h' hG hlw
  go_enter Tryz.func118, Tryz.ntmps118
  go_upto_region 2 with fail
  obtain ⟨W1, hW1⟩ : ∃ W1, ((w.alloc (.cells #[.int .i64 c.wires, .int .i64 c.bits, .slice A c.gates.length k] 93)).alloc (.cells #[.int .i64 0, .int .i64 0, .int .i64 0] 157)).alloc (.cells #[.int .i64 (-1), .int .i64 (-1), .int .i64 (-1)] 157) = W1 := ⟨_, rfl⟩
  have hb1 : Below w.heap.size w W1 := by rw [← hW1]; (repeat (first|exact bR _ _|assumption|apply bN|apply bA|apply bD))
  have p0 : W1.heap[w.heap.size]? = some (.cells #[.int .i64 c.wires, .int .i64 c.bits, .slice A c.gates.length k] 93 (0, 0)) := by rw [← hW1]; exact alloc_old (alloc_old (blk_alloc _ _ _ rfl))
  have p1 : W1.heap[w.heap.size + 1]? = some (.cells #[.int .i64 0, .int .i64 0, .int .i64 0] 157 (0, 0)) := by rw [← hW1]; exact alloc_old (blk_alloc _ _ _ (by simp))
  have p2 : W1.heap[w.heap.size + 1 + 1]? = some (.cells #[.int .i64 (-1), .int .i64 (-1), .int .i64 (-1)] 157 (0, 0)) := by rw [← hW1]; exact blk_alloc _ _ _ (by simp)
  rw [hW1]
  clear hW1 hold0 u0 u1 u2 hul
  obtain ⟨k0, k1, k2, kf⟩ := cells3 p0
  have hwr1 : IntKind.i64.wrap ((at_ : Int) + (l.length : Int)) = (at_ : Int) + (l.length : Int) := IntWalk.i64_in _ (by omega)
  by_cases h1 : c.gates.length < at_ + l.length
  · have h1' : (c.gates.length : Int) < (at_ : Int) + (l.length : Int) := by omega
    clear p0
    have HE := Lib.hid (show bindsR c l at_ = none from by unfold bindsR; rw [if_pos h1])
    have HP := Lib.hid (And.intro p1 hb1)
    obtain ⟨y0, y1, y2, yf⟩ := cells3 p1
    obtain ⟨z0, z1, z2, zf⟩ := cells3 p2
    have hn1 : (w.heap.size + 1 + 1 = w.heap.size + 1) = False := by simp
    have hn2 : (w.heap.size + 1 = w.heap.size + 1 + 1) = False := by simp
    clear p1 p2 hb1
    go_wp2
    rw [HE.out]
    exact z28t0
  have h1' : ¬ (c.gates.length : Int) < (at_ : Int) + (l.length : Int) := by omega
  have HQ := Lib.hid (show bindsR c l at_ = bindG unb (l.drop 0) (c.gates.drop (at_ + 0)) by unfold bindsR; rw [if_neg h1]; rfl)
  have HS := Lib.hid (show ∃ b0 b1 b2, bindsR c l at_ = bindG [b0, b1, b2] (l.drop 0) (c.gates.drop (at_ + 0)) ∧ W1.heap[w.heap.size + 1 + 1]? = some (.cells #[.int .i64 b0, .int .i64 b1, .int .i64 b2] 157 (0, 0)) ∧ W1.heap[w.heap.size]? = some (.cells #[.int .i64 c.wires, .int .i64 c.bits, .slice A c.gates.length k] 93 (0, 0)) ∧ W1.heap[w.heap.size + 1]? = some (.cells #[.int .i64 0, .int .i64 0, .int .i64 0] 157 (0, 0)) ∧ Below w.heap.size w W1 from ⟨-1, -1, -1, HQ.out, p2, p0, p1, hb1⟩)
  clear HQ
  clear p0 p1 p2 hb1 h1
  go_wp2
  clear k0 k1 k2 kf
  go_loopw [9, 10, 11, 12, 13, 27] (fun _ _ _ _ _ i wr => ∃ j : Nat, j ≤ l.length ∧ i = .int .i64 j ∧ Hid (∃ b0 b1 b2, bindsR c l at_ = bindG [b0, b1, b2] (l.drop j) (c.gates.drop (at_ + j)) ∧ wr.heap[w.heap.size + 1 + 1]? = some (.cells #[.int .i64 b0, .int .i64 b1, .int .i64 b2] 157 (0, 0)) ∧ wr.heap[w.heap.size]? = some (.cells #[.int .i64 c.wires, .int .i64 c.bits, .slice A c.gates.length k] 93 (0, 0)) ∧ wr.heap[w.heap.size + 1]? = some (.cells #[.int .i64 0, .int .i64 0, .int .i64 0] 157 (0, 0)) ∧ Below w.heap.size w wr)) (fun _ _ _ _ _ i _ => l.length - (intOf i).toNat)
  case atStart => exact ⟨0, Nat.zero_le _, rfl, HS⟩
  case round =>
    clear HS
    rename World => wo
    obtain ⟨j, hj, rfl, HI⟩ := hrel
    obtain ⟨b0, b1, b2, heq, p2, p0, p1, hb1⟩ := HI.out
    have HEQ := Lib.hid heq
    clear heq HI
    obtain ⟨k0, k1, k2, kf⟩ := cells3 p0
    by_cases hlt : j < l.length
    · have hltc : at_ + j < c.gates.length := by omega
      obtain ⟨bb, oo, B0, d0, hA0, g0, g1, g2, g3, hd0, hr0⟩ := HH.out.2.1.gate j hlt
      subst hA0
      obtain ⟨bb', oo', B1, d1, hA1, i0, i1, i2, i3, hd1, hr1⟩ := HH.out.1.gate (at_ + j) hltc
      subst hA1
      replace g0 := kc hb1 g0
      replace g1 := kc hb1 g1
      replace g2 := kc hb1 g2
      replace g3 := kc hb1 g3
      replace i0 := kc hb1 i0
      replace i1 := kc hb1 i1
      replace i2 := kc hb1 i2
      replace i3 := kc hb1 i3
      have HBG := Lib.hid (show bindsR c l at_ = _ from HEQ.out.trans (bindG_drop hlt hltc))
      have hgl := HH.out.2.2.2 _ (List.getElem_mem hlt)
      have hgc := HH.out.2.2.1 _ (List.getElem_mem hltc)
      obtain ⟨g, hg⟩ : ∃ g, l[j] = g := ⟨_, rfl⟩
      obtain ⟨g', hg'⟩ : ∃ g, c.gates[at_ + j] = g := ⟨_, rfl⟩
      rw [hg] at g0 g1 g2 g3 hd0 hr0 HBG hgl
      rw [hg'] at i0 i1 i2 i3 hd1 hr1 HBG hgc
      have HR := Lib.hid (And.intro hr0 (And.intro hr1 (And.intro hgl hgc)))
      have hl1 := cell_lt g0
      have hl2 := cell_lt i0
      have hlp0 := blk_lt p0
      have hlp1 := blk_lt p1
      have hlp2 := blk_lt p2
      have hold := olds wo
      clear hg hg' hr0 hr1 hgl hgc
      have hwr7 : IntKind.i64.wrap ((at_ : Int) + (j : Int)) = (at_ : Int) + (j : Int) := IntWalk.i64_in _ (by omega)
      have hpos7 : (0 : Int) ≤ (at_ : Int) + (j : Int) := by omega
      have hlt7 : (at_ : Int) + (j : Int) < (c.gates.length : Int) := by omega
      have hnat7 : ((at_ : Int) + (j : Int)).toNat = at_ + j := by omega
      go_upto_region 8 with fail
      obtain ⟨w5, hw5⟩ : ∃ w5, (wo.alloc (.cells #[.int .i64 g.kind, .slice B0 g.wires.length d0, .int .i64 g.bit, .int .i64 g.cif] 55)).alloc (.cells #[.int .i64 g'.kind, .slice B1 g'.wires.length d1, .int .i64 g'.bit, .int .i64 g'.cif] 55) = w5 := ⟨_, rfl⟩
      have hbr : Below wo.heap.size wo w5 := by rw [← hw5]; (repeat (first|exact bR _ _|assumption|apply bN|apply bA|apply bD))
      have x0 : w5.heap[wo.heap.size]? = some (.cells #[.int .i64 g.kind, .slice B0 g.wires.length d0, .int .i64 g.bit, .int .i64 g.cif] 55 (0, 0)) := by rw [← hw5]; exact fst2 _ _ _
      have x1 : w5.heap[wo.heap.size + 1]? = some (.cells #[.int .i64 g'.kind, .slice B1 g'.wires.length d1, .int .i64 g'.bit, .int .i64 g'.cif] 55 (0, 0)) := by rw [← hw5]; exact snd2 _ _ _
      rw [hw5]
      clear hw5 hold g0 g1 g2 g3 i0 i1 i2 i3 k0 k1 k2 kf
      replace p0 := blk2 hbr p0
      replace p1 := blk2 hbr p1
      replace p2 := blk2 hbr p2
      replace hb1 := hb1.trans (hbr.mono hb1.size)
      clear hbr
      obtain ⟨s0, s1, s2, s3, sf⟩ := cells4 x0
      obtain ⟨t0, t1, t2, t3, tf⟩ := cells4 x1
      by_cases hkd : g.kind = g'.kind
      case neg =>
        have tk : (g.kind != g'.kind) = true := by simpa using hkd
        clear x0 x1 p0
        have HE := Lib.hid (show bindsR c l at_ = none from by rw [HBG.out, if_pos hkd])
        have HP := Lib.hid (And.intro p1 hb1)
        obtain ⟨y0, y1, y2, yf⟩ := cells3 p1
        obtain ⟨z0, z1, z2, zf⟩ := cells3 p2
        have hn1 : (w.heap.size + 1 + 1 = w.heap.size + 1) = False := by simp
        have hn2 : (w.heap.size + 1 = w.heap.size + 1 + 1) = False := by simp
        clear p1 p2 hb1
        go_wp2
        rw [HE.out]
        exact z28t0
      have tk : (g.kind != g'.kind) = false := by simpa using hkd
      have hlw : g'.wires.length = g.wires.length := by
        have e1 := HR.out.2.2.1.2.2.1
        have e2 := HR.out.2.2.2.2.2.1
        rw [← hkd] at e2
        omega
      obtain ⟨hlw1, hlw2⟩ : g'.wires.length ≤ g.wires.length ∧ g.wires.length ≤ g'.wires.length := by omega
      clear hlw
      have hg3 : g.wires.length ≤ 3 := by
        have e1 := HR.out.2.2.1.2.2.1
        have := arity_le g.kind
        omega
      have HW := Lib.hid (show bindsR c l at_ = match bindW [b0, b1, b2] (g.wires.drop 0) (g'.wires.drop 0) with | some b' => bindG b' (l.drop (j + 1)) (c.gates.drop (at_ + j + 1)) | none => none from by rw [HBG.out, if_neg (by simp [hkd])]; rfl)
      have HS := Lib.hid (show ∃ b0 b1 b2, (bindsR c l at_ = match bindW [b0, b1, b2] (g.wires.drop 0) (g'.wires.drop 0) with | some b' => bindG b' (l.drop (j + 1)) (c.gates.drop (at_ + j + 1)) | none => none) ∧ w5.heap[w.heap.size + 1 + 1]? = some (.cells #[.int .i64 b0, .int .i64 b1, .int .i64 b2] 157 (0, 0)) ∧ w5.heap[wo.heap.size]? = some (.cells #[.int .i64 g.kind, .slice B0 g.wires.length d0, .int .i64 g.bit, .int .i64 g.cif] 55 (0, 0)) ∧ w5.heap[wo.heap.size + 1]? = some (.cells #[.int .i64 g'.kind, .slice B1 g'.wires.length d1, .int .i64 g'.bit, .int .i64 g'.cif] 55 (0, 0)) ∧ w5.heap[w.heap.size]? = some (.cells #[.int .i64 c.wires, .int .i64 c.bits, .slice (some ⟨bb', oo', none⟩) c.gates.length k] 93 (0, 0)) ∧ w5.heap[w.heap.size + 1]? = some (.cells #[.int .i64 0, .int .i64 0, .int .i64 0] 157 (0, 0)) ∧ Below w.heap.size w w5 from ⟨_, _, _, HW.out, p2, x0, x1, p0, p1, hb1⟩)
      clear HW HBG hkd x0 x1 p0 p1 p2 hb1
      go_wp2
      clear s0 s1 s2 s3 sf t0 t1 t2 t3 tf
      go_loopw [12, 13, 49] (fun _ _ i wr2 => ∃ m : Nat, m ≤ g.wires.length ∧ i = .int .i64 m ∧ Hid (∃ b0 b1 b2, (bindsR c l at_ = match bindW [b0, b1, b2] (g.wires.drop m) (g'.wires.drop m) with | some b' => bindG b' (l.drop (j + 1)) (c.gates.drop (at_ + j + 1)) | none => none) ∧ wr2.heap[w.heap.size + 1 + 1]? = some (.cells #[.int .i64 b0, .int .i64 b1, .int .i64 b2] 157 (0, 0)) ∧ wr2.heap[wo.heap.size]? = some (.cells #[.int .i64 g.kind, .slice B0 g.wires.length d0, .int .i64 g.bit, .int .i64 g.cif] 55 (0, 0)) ∧ wr2.heap[wo.heap.size + 1]? = some (.cells #[.int .i64 g'.kind, .slice B1 g'.wires.length d1, .int .i64 g'.bit, .int .i64 g'.cif] 55 (0, 0)) ∧ wr2.heap[w.heap.size]? = some (.cells #[.int .i64 c.wires, .int .i64 c.bits, .slice (some ⟨bb', oo', none⟩) c.gates.length k] 93 (0, 0)) ∧ wr2.heap[w.heap.size + 1]? = some (.cells #[.int .i64 0, .int .i64 0, .int .i64 0] 157 (0, 0)) ∧ Below w.heap.size w wr2)) (fun _ _ i _ => g.wires.length - (intOf i).toNat)
      case atStart =>
        exact ⟨0, Nat.zero_le _, rfl, HS⟩
      case round =>
        clear HS b0 b1 b2 HEQ
        obtain ⟨m, hm, rfl, HI⟩ := hrel
        obtain ⟨b0, b1, b2, heq, p2, x0, x1, p0, p1, hb1⟩ := HI.out
        have q0 := HR.out.1.bI hb1
        have q1 := HR.out.2.1.bI hb1
        have HEQ := Lib.hid heq
        clear heq
        obtain ⟨s0, s1, s2, s3, sf⟩ := cells4 x0
        obtain ⟨t0, t1, t2, t3, tf⟩ := cells4 x1
        by_cases hlm : m < g.wires.length
        · have hlm' : m < g'.wires.length := by omega
          have HB := Lib.hid (show bindsR c l at_ = _ from HEQ.out.trans (by rw [bindW_drop hlm hlm']))
          obtain ⟨ba, oa, rfl, hx0⟩ := q0.int m hlm
          obtain ⟨bc, oc, rfl, hy0⟩ := q1.int m hlm'
          have hwx := HR.out.2.2.1.2.2.2.1 _ (List.getElem_mem hlm)
          obtain ⟨xw, hxw⟩ : ∃ x, g.wires[m] = x := ⟨_, rfl⟩
          obtain ⟨y, hy⟩ : ∃ y, g'.wires[m] = y := ⟨_, rfl⟩
          rw [hxw] at hwx hx0 HB
          rw [hy] at hy0 HB
          obtain ⟨wn, rfl⟩ : ∃ wn : Nat, xw = wn := ⟨xw.toNat, by omega⟩
          have hwn : wn < 3 := by omega
          rw [Int.toNat_natCast] at HB
          have hcb := cell3 p2 hwn
          obtain ⟨xv, hxv⟩ : ∃ v, [b0, b1, b2].getD wn 0 = v := ⟨_, rfl⟩
          rw [hxv] at hcb HB
          obtain ⟨r0, r1, r2, rf⟩ := cells3 p2
          have hwn' : (wn : Int) < 3 := by omega
          have HLM := Lib.hid (show m + 1 ≤ g.wires.length from hlm)
          have hP := Lib.hid (And.intro p2 (And.intro x0 (And.intro x1 (And.intro p0 (And.intro p1 (And.intro hb1 (And.intro q0 q1)))))))
          clear hxw hy hxv hwx HEQ HI q0 q1 x0 x1 p0
          obtain ⟨p, hp⟩ : ∃ p, decide (xv < 0) = p := ⟨_, rfl⟩
          obtain ⟨q, hq⟩ : ∃ q, decide (y ∈ [b0, b1, b2]) = q := ⟨_, rfl⟩
          have HPQ := Lib.hid (And.intro hp hq)
          clear hq
          cases p
          · have hp' : ¬ xv < 0 := by simpa using hp
            have HF := Lib.hid (show ¬ (xv < 0 ∧ ¬ y ∈ [b0, b1, b2]) from fun h => hp' h.1)
            clear hp
            go_wp2
            refine wp_region_sg (by kernel_rfl) [0, 1, 2, 3, 4, 5, 6, 7, 8, 9, 10, 11, 12, 13, 14] (by kernel_rfl) (by kernel_rfl) (by kernel_rfl) ?_
            refine SG.p (v := ?v1_13_0) rfl rfl rfl (fun W => ?h1_13_0) ?r1_13_0
            case h1_13_0 => (first|(go_simp;done)|(go_simp;with_reducible rfl))
            simp only [Act.put, pA, pB, pC]
            refine SG.p (v := ?v1_13_1) rfl rfl rfl (fun W => ?h1_13_1) ?r1_13_1
            case h1_13_1 => (first|(go_simp;done)|(go_simp;with_reducible rfl))
            simp only [Act.put, pA, pB, pC]
            refine SG.l (v := ?v1_13_2) rfl rfl rfl ?h1_13_2 ?r1_13_2
            case h1_13_2 => (first|(go_simp;done)|(go_simp;with_reducible rfl))
            simp only [Act.put, pA, pB, pC]
            refine SG.p (v := ?v1_13_3) rfl rfl rfl (fun W => ?h1_13_3) ?r1_13_3
            case h1_13_3 => (first|(go_simp;done)|(go_simp;with_reducible rfl))
            simp only [Act.put, pA, pB, pC]
            refine SG.p (v := ?v1_13_4) rfl rfl rfl (fun W => ?h1_13_4) ?r1_13_4
            case h1_13_4 => (first|(go_simp;done)|(go_simp;with_reducible rfl))
            simp only [Act.put, pA, pB, pC]
            refine SG.s rfl (by first|rfl|(simp [Region.wanted, yielded, *];done)) ?_
            simp only [Act.put, pA, pB, pC]
            refine SG.s rfl (by first|rfl|(simp [Region.wanted, yielded, *];done)) ?_
            simp only [Act.put, pA, pB, pC]
            refine SG.s rfl (by first|rfl|(simp [Region.wanted, yielded, *];done)) ?_
            simp only [Act.put, pA, pB, pC]
            refine SG.s rfl (by first|rfl|(simp [Region.wanted, yielded, *];done)) ?_
            simp only [Act.put, pA, pB, pC]
            refine SG.s rfl (by first|rfl|(simp [Region.wanted, yielded, *];done)) ?_
            simp only [Act.put, pA, pB, pC]
            refine SG.s rfl (by first|rfl|(simp [Region.wanted, yielded, *];done)) ?_
            simp only [Act.put, pA, pB, pC]
            refine SG.s rfl (by first|rfl|(simp [Region.wanted, yielded, *];done)) ?_
            simp only [Act.put, pA, pB, pC]
            refine SG.s rfl (by first|rfl|(simp [Region.wanted, yielded, *];done)) ?_
            simp only [Act.put, pA, pB, pC]
            refine SG.p (v := ?v1_13_13) rfl rfl rfl (fun W => ?h1_13_13) ?r1_13_13
            case h1_13_13 => (first|(go_simp;done)|(go_simp;with_reducible rfl))
            simp only [Act.put, pA, pB, pC]
            refine SG.p (v := ?v1_13_14) rfl rfl rfl (fun W => ?h1_13_14) ?r1_13_14
            case h1_13_14 => (first|(go_simp;done)|(go_simp;with_reducible rfl))
            simp only [Act.put, pA, pB, pC]
            simp only [SG]
            obtain ⟨r, hr⟩ : ∃ r, (xv != y) = r := ⟨_, rfl⟩
            cases r
            · have HB2 := Lib.hid (show bindsR c l at_ = match bindW [b0, b1, b2] (g.wires.drop (m + 1)) (g'.wires.drop (m + 1)) with | some b' => bindG b' (l.drop (j + 1)) (c.gates.drop (at_ + j + 1)) | none => none by rw [HB.out, if_neg HF.out, if_neg (by simpa using hr)])
              go_wp2
              refine wp_region_sg (by kernel_rfl) [0, 1, 2, 3, 4, 5, 6, 7, 8, 9] (by kernel_rfl) (by kernel_rfl) (by kernel_rfl) ?_
              refine SG.p (v := ?v2_15_0) rfl rfl rfl (fun W => ?h2_15_0) ?r2_15_0
              case h2_15_0 => (first|(go_simp;done)|(go_simp;with_reducible rfl))
              simp only [Act.put, pA, pB, pC]
              refine SG.p (v := ?v2_15_1) rfl rfl rfl (fun W => ?h2_15_1) ?r2_15_1
              case h2_15_1 => (first|(go_simp;done)|(go_simp;with_reducible rfl))
              simp only [Act.put, pA, pB, pC]
              refine SG.l (v := ?v2_15_2) rfl rfl rfl ?h2_15_2 ?r2_15_2
              case h2_15_2 => (first|(go_simp;done)|(go_simp;with_reducible rfl))
              simp only [Act.put, pA, pB, pC]
              refine SG.p (v := ?v2_15_3) rfl rfl rfl (fun W => ?h2_15_3) ?r2_15_3
              case h2_15_3 => (first|(go_simp;done)|(go_simp;with_reducible rfl))
              simp only [Act.put, pA, pB, pC]
              refine SG.l (v := ?v2_15_4) rfl rfl rfl ?h2_15_4 ?r2_15_4
              case h2_15_4 => (first|(go_simp;done)|(go_simp;with_reducible rfl))
              simp only [Act.put, pA, pB, pC]
              refine SG.p (v := ?v2_15_5) rfl rfl rfl (fun W => ?h2_15_5) ?r2_15_5
              case h2_15_5 => (first|(go_simp;done)|(go_simp;with_reducible rfl))
              simp only [Act.put, pA, pB, pC]
              refine SG.p (v := ?v2_15_6) rfl rfl rfl (fun W => ?h2_15_6) ?r2_15_6
              case h2_15_6 => (first|(go_simp;done)|(go_simp;with_reducible rfl))
              simp only [Act.put, pA, pB, pC]
              refine SG.l (v := ?v2_15_7) rfl rfl rfl ?h2_15_7 ?r2_15_7
              case h2_15_7 => (first|(go_simp;done)|(go_simp;with_reducible rfl))
              simp only [Act.put, pA, pB, pC]
              refine SG.p (v := ?v2_15_8) rfl rfl rfl (fun W => ?h2_15_8) ?r2_15_8
              case h2_15_8 => (first|(go_simp;done)|(go_simp;with_reducible rfl))
              simp only [Act.put, pA, pB, pC]
              refine SG.p (v := ?v2_15_9) rfl rfl rfl (fun W => ?h2_15_9) ?r2_15_9
              case h2_15_9 => (first|(go_simp;done)|(go_simp;with_reducible rfl))
              simp only [Act.put, pA, pB, pC]
              simp only [SG]
              go_wp2
              go_roundw
              case rel => exact ⟨m + 1, HLM.out, by go_num, Lib.hid ⟨b0, b1, b2, HB2.out, blk2 (by (repeat (first|exact bR _ _|assumption|apply bN|apply bA|apply bD))) hP.out.1, blk2 (by (repeat (first|exact bR _ _|assumption|apply bN|apply bA|apply bD))) hP.out.2.1, blk2 (by (repeat (first|exact bR _ _|assumption|apply bN|apply bA|apply bD))) hP.out.2.2.1, blk2 (by (repeat (first|exact bR _ _|assumption|apply bN|apply bA|apply bD))) hP.out.2.2.2.1, blk2 (by (repeat (first|exact bR _ _|assumption|apply bN|apply bA|apply bD))) hP.out.2.2.2.2.1, by have := hP.out.2.2.2.2.2.1; (repeat (first|exact bR _ _|assumption|apply bN|apply bA|apply bD))⟩⟩
              case measure => have := HLM.out; simp [intOf]; omega
            · have HB2 := Lib.hid (show bindsR c l at_ = none by rw [HB.out, if_neg HF.out, if_pos (by simpa using hr)])
              go_wp2
              refine wp_region_sg (by kernel_rfl) [0, 1, 2, 3, 4, 5, 6, 7, 8, 9] (by kernel_rfl) (by kernel_rfl) (by kernel_rfl) ?_
              refine SG.p (v := ?v3_15_0) rfl rfl rfl (fun W => ?h3_15_0) ?r3_15_0
              case h3_15_0 => (first|(go_simp;done)|(go_simp;with_reducible rfl))
              simp only [Act.put, pA, pB, pC]
              refine SG.p (v := ?v3_15_1) rfl rfl rfl (fun W => ?h3_15_1) ?r3_15_1
              case h3_15_1 => (first|(go_simp;done)|(go_simp;with_reducible rfl))
              simp only [Act.put, pA, pB, pC]
              refine SG.l (v := ?v3_15_2) rfl rfl rfl ?h3_15_2 ?r3_15_2
              case h3_15_2 => (first|(go_simp;done)|(go_simp;with_reducible rfl))
              simp only [Act.put, pA, pB, pC]
              refine SG.p (v := ?v3_15_3) rfl rfl rfl (fun W => ?h3_15_3) ?r3_15_3
              case h3_15_3 => (first|(go_simp;done)|(go_simp;with_reducible rfl))
              simp only [Act.put, pA, pB, pC]
              refine SG.l (v := ?v3_15_4) rfl rfl rfl ?h3_15_4 ?r3_15_4
              case h3_15_4 => (first|(go_simp;done)|(go_simp;with_reducible rfl))
              simp only [Act.put, pA, pB, pC]
              refine SG.p (v := ?v3_15_5) rfl rfl rfl (fun W => ?h3_15_5) ?r3_15_5
              case h3_15_5 => (first|(go_simp;done)|(go_simp;with_reducible rfl))
              simp only [Act.put, pA, pB, pC]
              refine SG.p (v := ?v3_15_6) rfl rfl rfl (fun W => ?h3_15_6) ?r3_15_6
              case h3_15_6 => (first|(go_simp;done)|(go_simp;with_reducible rfl))
              simp only [Act.put, pA, pB, pC]
              refine SG.l (v := ?v3_15_7) rfl rfl rfl ?h3_15_7 ?r3_15_7
              case h3_15_7 => (first|(go_simp;done)|(go_simp;with_reducible rfl))
              simp only [Act.put, pA, pB, pC]
              refine SG.p (v := ?v3_15_8) rfl rfl rfl (fun W => ?h3_15_8) ?r3_15_8
              case h3_15_8 => (first|(go_simp;done)|(go_simp;with_reducible rfl))
              simp only [Act.put, pA, pB, pC]
              refine SG.p (v := ?v3_15_9) rfl rfl rfl (fun W => ?h3_15_9) ?r3_15_9
              case h3_15_9 => (first|(go_simp;done)|(go_simp;with_reducible rfl))
              simp only [Act.put, pA, pB, pC]
              simp only [SG]
              obtain ⟨w6, hw6⟩ : ∃ w6, wr.drew.drew = w6 := ⟨_, rfl⟩
              have hbr : Below wr.heap.size wr w6 := by rw [← hw6]; (repeat (first|exact bR _ _|assumption|apply bN|apply bA|apply bD))
              have P2 := blk2 hbr hP.out.1
              have P1 := blk2 hbr hP.out.2.2.2.2.1
              have HB3 := hP.out.2.2.2.2.2.1.trans (hbr.mono hP.out.2.2.2.2.2.1.size)
              rw [hw6]
              clear hw6 hbr hr s0 s1 s2 s3 sf t0 t1 t2 t3 tf r0 r1 r2 rf hcb hx0 hy0
              have HE := Lib.hid (show bindsR c l at_ = none from HB2.out)
              have HP := Lib.hid (And.intro P1 HB3)
              obtain ⟨y0, y1, y2, yf⟩ := cells3 P1
              obtain ⟨z0, z1, z2, zf⟩ := cells3 P2
              have hn1 : (w.heap.size + 1 + 1 = w.heap.size + 1) = False := by simp
              have hn2 : (w.heap.size + 1 = w.heap.size + 1 + 1) = False := by simp
              clear P1 P2 HB3
              go_wp2
              rw [HE.out]
              exact z28t0
          · have hp' : xv < 0 := by simpa using hp
            clear hp
            cases q
            · go_wp2
              refine wp_region_sg (by kernel_rfl) [0, 1, 2, 3, 4, 5, 6, 7, 8, 9, 10, 11, 12, 13, 14] (by kernel_rfl) (by kernel_rfl) (by kernel_rfl) ?_
              refine SG.p (v := ?v4_13_0) rfl rfl rfl (fun W => ?h4_13_0) ?r4_13_0
              case h4_13_0 => (first|(go_simp;done)|(go_simp;with_reducible rfl))
              simp only [Act.put, pA, pB, pC]
              refine SG.p (v := ?v4_13_1) rfl rfl rfl (fun W => ?h4_13_1) ?r4_13_1
              case h4_13_1 => (first|(go_simp;done)|(go_simp;with_reducible rfl))
              simp only [Act.put, pA, pB, pC]
              refine SG.l (v := ?v4_13_2) rfl rfl rfl ?h4_13_2 ?r4_13_2
              case h4_13_2 => (first|(go_simp;done)|(go_simp;with_reducible rfl))
              simp only [Act.put, pA, pB, pC]
              refine SG.p (v := ?v4_13_3) rfl rfl rfl (fun W => ?h4_13_3) ?r4_13_3
              case h4_13_3 => (first|(go_simp;done)|(go_simp;with_reducible rfl))
              simp only [Act.put, pA, pB, pC]
              refine SG.p (v := ?v4_13_4) rfl rfl rfl (fun W => ?h4_13_4) ?r4_13_4
              case h4_13_4 => (first|(go_simp;done)|(go_simp;with_reducible rfl))
              simp only [Act.put, pA, pB, pC]
              refine SG.p (v := ?v4_13_5) rfl rfl (by first|rfl|(simp [Region.wanted, yielded, *];done)) (fun W => ?h4_13_5) ?r4_13_5
              case h4_13_5 => (first|(go_simp;done)|(go_simp;with_reducible rfl))
              simp only [Act.put, pA, pB, pC]
              refine SG.p (v := ?v4_13_6) rfl rfl (by first|rfl|(simp [Region.wanted, yielded, *];done)) (fun W => ?h4_13_6) ?r4_13_6
              case h4_13_6 => (first|(go_simp;done)|(go_simp;with_reducible rfl))
              simp only [Act.put, pA, pB, pC]
              refine SG.l (v := ?v4_13_7) rfl rfl (by first|rfl|(simp [Region.wanted, yielded, *];done)) ?h4_13_7 ?r4_13_7
              case h4_13_7 => (first|(go_simp;done)|(go_simp;with_reducible rfl))
              simp only [Act.put, pA, pB, pC]
              refine SG.p (v := ?v4_13_8) rfl rfl (by first|rfl|(simp [Region.wanted, yielded, *];done)) (fun W => ?h4_13_8) ?r4_13_8
              case h4_13_8 => (first|(go_simp;done)|(go_simp;with_reducible rfl))
              simp only [Act.put, pA, pB, pC]
              refine SG.p (v := ?v4_13_9) rfl rfl (by first|rfl|(simp [Region.wanted, yielded, *];done)) (fun W => ?h4_13_9) ?r4_13_9
              case h4_13_9 => (first|(go_simp;done)|(go_simp;with_reducible rfl))
              simp only [Act.put, pA, pB, pC]
              refine SG.l (v := ?v4_13_10) rfl rfl (by first|rfl|(simp [Region.wanted, yielded, *];done)) ?h4_13_10 ?r4_13_10
              case h4_13_10 => (first|(go_simp;done)|(go_simp;with_reducible rfl))
              simp only [Act.put, pA, pB, pC]
              refine SG.c rfl rfl (by first|rfl|(simp [Region.wanted, yielded, *];done)) (by first|(go_simp;done)|(go_simp;with_reducible rfl)|(go_simp;exact ⟨⟨rfl, rfl⟩, rfl⟩)) ?_
              refine (Contains_is _ 3 3 [b0, b1, b2] y _ (row3 (W := wr.drew) hP.out.1) rfl false HPQ.out.2).mono ?_
              rintro e w2 ⟨rfl, rfl⟩
              refine ⟨_, rfl, ?_, ?_⟩
              · exact ⟨(nw (by kernel_rfl)), (fun _ => ⟨_, drop_at rfl, by (first|(go_simp;done)|(go_simp;with_reducible rfl))⟩), (fun _ => ⟨_, drop_at rfl, by (first|(go_simp;done)|(go_simp;with_reducible rfl))⟩), trivial⟩
              simp only [Act.put, pA, pB, pC]
              refine SG.p (v := ?v4_13_12) rfl rfl (by first|rfl|(simp [Region.wanted, yielded, *];done)) (fun W => ?h4_13_12) ?r4_13_12
              case h4_13_12 => (first|(go_simp;done)|(go_simp;with_reducible rfl))
              simp only [Act.put, pA, pB, pC]
              refine SG.p (v := ?v4_13_13) rfl rfl rfl (fun W => ?h4_13_13) ?r4_13_13
              case h4_13_13 => (first|(go_simp;done)|(go_simp;with_reducible rfl))
              simp only [Act.put, pA, pB, pC]
              refine SG.p (v := ?v4_13_14) rfl rfl rfl (fun W => ?h4_13_14) ?r4_13_14
              case h4_13_14 => (first|(go_simp;done)|(go_simp;with_reducible rfl))
              simp only [Act.put, pA, pB, pC]
              simp only [SG]
              have HF := Lib.hid (show xv < 0 ∧ ¬ y ∈ [b0, b1, b2] from ⟨hp', by simpa using HPQ.out.2⟩)
              have HB2 := Lib.hid (show bindsR c l at_ = match bindW ([b0, b1, b2].set wn y) (g.wires.drop (m + 1)) (g'.wires.drop (m + 1)) with | some b' => bindG b' (l.drop (j + 1)) (c.gates.drop (at_ + j + 1)) | none => none by rw [HB.out, if_pos HF.out])
              have hn1 : wo.heap.size ≠ w.heap.size + 1 + 1 := by omega
              have hn2 : wo.heap.size + 1 ≠ w.heap.size + 1 + 1 := by omega
              have hn3 : w.heap.size ≠ w.heap.size + 1 + 1 := by omega
              have hn4 : w.heap.size + 1 ≠ w.heap.size + 1 + 1 := by omega
              have hfz := rf wn
              have hw2 : w.heap.size ≤ w.heap.size + 1 + 1 := by omega
              have HN := Lib.hid (And.intro hn1 (And.intro hn2 (And.intro hn3 hn4)))
              clear hn1 hn2 hn3 hn4
              go_wp2
              go_roundw
              case rel =>
                obtain ⟨v0, v1, v2, hset, hblk⟩ := set3at (y := y) hP.out.1 hwn
                exact ⟨m + 1, HLM.out, by go_num, Lib.hid ⟨v0, v1, v2, by rw [HB2.out, hset], hblk, (heap_setCell_other _ _ _ _ HN.out.1).trans hP.out.2.1, (heap_setCell_other _ _ _ _ HN.out.2.1).trans hP.out.2.2.1, (heap_setCell_other _ _ _ _ HN.out.2.2.1).trans hP.out.2.2.2.1, (heap_setCell_other _ _ _ _ HN.out.2.2.2).trans hP.out.2.2.2.2.1, by have := hP.out.2.2.2.2.2.1.setCell (show w.heap.size ≤ (⟨w.heap.size + 1 + 1, wn, none⟩ : Addr).block from hw2) (.int .i64 y); (repeat (first|exact bR _ _|assumption|apply bN|apply bA|apply bD))⟩⟩
              case measure => have := HLM.out; simp [intOf]; omega
            · go_wp2
              refine wp_region_sg (by kernel_rfl) [0, 1, 2, 3, 4, 5, 6, 7, 8, 9, 10, 11, 12, 13, 14] (by kernel_rfl) (by kernel_rfl) (by kernel_rfl) ?_
              refine SG.p (v := ?v5_13_0) rfl rfl rfl (fun W => ?h5_13_0) ?r5_13_0
              case h5_13_0 => (first|(go_simp;done)|(go_simp;with_reducible rfl))
              simp only [Act.put, pA, pB, pC]
              refine SG.p (v := ?v5_13_1) rfl rfl rfl (fun W => ?h5_13_1) ?r5_13_1
              case h5_13_1 => (first|(go_simp;done)|(go_simp;with_reducible rfl))
              simp only [Act.put, pA, pB, pC]
              refine SG.l (v := ?v5_13_2) rfl rfl rfl ?h5_13_2 ?r5_13_2
              case h5_13_2 => (first|(go_simp;done)|(go_simp;with_reducible rfl))
              simp only [Act.put, pA, pB, pC]
              refine SG.p (v := ?v5_13_3) rfl rfl rfl (fun W => ?h5_13_3) ?r5_13_3
              case h5_13_3 => (first|(go_simp;done)|(go_simp;with_reducible rfl))
              simp only [Act.put, pA, pB, pC]
              refine SG.p (v := ?v5_13_4) rfl rfl rfl (fun W => ?h5_13_4) ?r5_13_4
              case h5_13_4 => (first|(go_simp;done)|(go_simp;with_reducible rfl))
              simp only [Act.put, pA, pB, pC]
              refine SG.p (v := ?v5_13_5) rfl rfl (by first|rfl|(simp [Region.wanted, yielded, *];done)) (fun W => ?h5_13_5) ?r5_13_5
              case h5_13_5 => (first|(go_simp;done)|(go_simp;with_reducible rfl))
              simp only [Act.put, pA, pB, pC]
              refine SG.p (v := ?v5_13_6) rfl rfl (by first|rfl|(simp [Region.wanted, yielded, *];done)) (fun W => ?h5_13_6) ?r5_13_6
              case h5_13_6 => (first|(go_simp;done)|(go_simp;with_reducible rfl))
              simp only [Act.put, pA, pB, pC]
              refine SG.l (v := ?v5_13_7) rfl rfl (by first|rfl|(simp [Region.wanted, yielded, *];done)) ?h5_13_7 ?r5_13_7
              case h5_13_7 => (first|(go_simp;done)|(go_simp;with_reducible rfl))
              simp only [Act.put, pA, pB, pC]
              refine SG.p (v := ?v5_13_8) rfl rfl (by first|rfl|(simp [Region.wanted, yielded, *];done)) (fun W => ?h5_13_8) ?r5_13_8
              case h5_13_8 => (first|(go_simp;done)|(go_simp;with_reducible rfl))
              simp only [Act.put, pA, pB, pC]
              refine SG.p (v := ?v5_13_9) rfl rfl (by first|rfl|(simp [Region.wanted, yielded, *];done)) (fun W => ?h5_13_9) ?r5_13_9
              case h5_13_9 => (first|(go_simp;done)|(go_simp;with_reducible rfl))
              simp only [Act.put, pA, pB, pC]
              refine SG.l (v := ?v5_13_10) rfl rfl (by first|rfl|(simp [Region.wanted, yielded, *];done)) ?h5_13_10 ?r5_13_10
              case h5_13_10 => (first|(go_simp;done)|(go_simp;with_reducible rfl))
              simp only [Act.put, pA, pB, pC]
              refine SG.c rfl rfl (by first|rfl|(simp [Region.wanted, yielded, *];done)) (by first|(go_simp;done)|(go_simp;with_reducible rfl)|(go_simp;exact ⟨⟨rfl, rfl⟩, rfl⟩)) ?_
              refine (Contains_is _ 3 3 [b0, b1, b2] y _ (row3 (W := wr.drew) hP.out.1) rfl true HPQ.out.2).mono ?_
              rintro e w2 ⟨rfl, rfl⟩
              refine ⟨_, rfl, ?_, ?_⟩
              · exact ⟨(nw (by kernel_rfl)), (fun _ => ⟨_, drop_at rfl, by (first|(go_simp;done)|(go_simp;with_reducible rfl))⟩), (fun _ => ⟨_, drop_at rfl, by (first|(go_simp;done)|(go_simp;with_reducible rfl))⟩), trivial⟩
              simp only [Act.put, pA, pB, pC]
              refine SG.p (v := ?v5_13_12) rfl rfl (by first|rfl|(simp [Region.wanted, yielded, *];done)) (fun W => ?h5_13_12) ?r5_13_12
              case h5_13_12 => (first|(go_simp;done)|(go_simp;with_reducible rfl))
              simp only [Act.put, pA, pB, pC]
              refine SG.p (v := ?v5_13_13) rfl rfl rfl (fun W => ?h5_13_13) ?r5_13_13
              case h5_13_13 => (first|(go_simp;done)|(go_simp;with_reducible rfl))
              simp only [Act.put, pA, pB, pC]
              refine SG.p (v := ?v5_13_14) rfl rfl rfl (fun W => ?h5_13_14) ?r5_13_14
              case h5_13_14 => (first|(go_simp;done)|(go_simp;with_reducible rfl))
              simp only [Act.put, pA, pB, pC]
              simp only [SG]
              have HF := Lib.hid (show ¬ (xv < 0 ∧ ¬ y ∈ [b0, b1, b2]) from fun h => h.2 (by simpa using HPQ.out.2))
              obtain ⟨r, hr⟩ : ∃ r, (xv != y) = r := ⟨_, rfl⟩
              cases r
              · have HB2 := Lib.hid (show bindsR c l at_ = match bindW [b0, b1, b2] (g.wires.drop (m + 1)) (g'.wires.drop (m + 1)) with | some b' => bindG b' (l.drop (j + 1)) (c.gates.drop (at_ + j + 1)) | none => none by rw [HB.out, if_neg HF.out, if_neg (by simpa using hr)])
                go_wp2
                refine wp_region_sg (by kernel_rfl) [0, 1, 2, 3, 4, 5, 6, 7, 8, 9] (by kernel_rfl) (by kernel_rfl) (by kernel_rfl) ?_
                refine SG.p (v := ?v6_15_0) rfl rfl rfl (fun W => ?h6_15_0) ?r6_15_0
                case h6_15_0 => (first|(go_simp;done)|(go_simp;with_reducible rfl))
                simp only [Act.put, pA, pB, pC]
                refine SG.p (v := ?v6_15_1) rfl rfl rfl (fun W => ?h6_15_1) ?r6_15_1
                case h6_15_1 => (first|(go_simp;done)|(go_simp;with_reducible rfl))
                simp only [Act.put, pA, pB, pC]
                refine SG.l (v := ?v6_15_2) rfl rfl rfl ?h6_15_2 ?r6_15_2
                case h6_15_2 => (first|(go_simp;done)|(go_simp;with_reducible rfl))
                simp only [Act.put, pA, pB, pC]
                refine SG.p (v := ?v6_15_3) rfl rfl rfl (fun W => ?h6_15_3) ?r6_15_3
                case h6_15_3 => (first|(go_simp;done)|(go_simp;with_reducible rfl))
                simp only [Act.put, pA, pB, pC]
                refine SG.l (v := ?v6_15_4) rfl rfl rfl ?h6_15_4 ?r6_15_4
                case h6_15_4 => (first|(go_simp;done)|(go_simp;with_reducible rfl))
                simp only [Act.put, pA, pB, pC]
                refine SG.p (v := ?v6_15_5) rfl rfl rfl (fun W => ?h6_15_5) ?r6_15_5
                case h6_15_5 => (first|(go_simp;done)|(go_simp;with_reducible rfl))
                simp only [Act.put, pA, pB, pC]
                refine SG.p (v := ?v6_15_6) rfl rfl rfl (fun W => ?h6_15_6) ?r6_15_6
                case h6_15_6 => (first|(go_simp;done)|(go_simp;with_reducible rfl))
                simp only [Act.put, pA, pB, pC]
                refine SG.l (v := ?v6_15_7) rfl rfl rfl ?h6_15_7 ?r6_15_7
                case h6_15_7 => (first|(go_simp;done)|(go_simp;with_reducible rfl))
                simp only [Act.put, pA, pB, pC]
                refine SG.p (v := ?v6_15_8) rfl rfl rfl (fun W => ?h6_15_8) ?r6_15_8
                case h6_15_8 => (first|(go_simp;done)|(go_simp;with_reducible rfl))
                simp only [Act.put, pA, pB, pC]
                refine SG.p (v := ?v6_15_9) rfl rfl rfl (fun W => ?h6_15_9) ?r6_15_9
                case h6_15_9 => (first|(go_simp;done)|(go_simp;with_reducible rfl))
                simp only [Act.put, pA, pB, pC]
                simp only [SG]
                go_wp2
                go_roundw
                case rel => exact ⟨m + 1, HLM.out, by go_num, Lib.hid ⟨b0, b1, b2, HB2.out, blk2 (by (repeat (first|exact bR _ _|assumption|apply bN|apply bA|apply bD))) hP.out.1, blk2 (by (repeat (first|exact bR _ _|assumption|apply bN|apply bA|apply bD))) hP.out.2.1, blk2 (by (repeat (first|exact bR _ _|assumption|apply bN|apply bA|apply bD))) hP.out.2.2.1, blk2 (by (repeat (first|exact bR _ _|assumption|apply bN|apply bA|apply bD))) hP.out.2.2.2.1, blk2 (by (repeat (first|exact bR _ _|assumption|apply bN|apply bA|apply bD))) hP.out.2.2.2.2.1, by have := hP.out.2.2.2.2.2.1; (repeat (first|exact bR _ _|assumption|apply bN|apply bA|apply bD))⟩⟩
                case measure => have := HLM.out; simp [intOf]; omega
              · have HB2 := Lib.hid (show bindsR c l at_ = none by rw [HB.out, if_neg HF.out, if_pos (by simpa using hr)])
                go_wp2
                refine wp_region_sg (by kernel_rfl) [0, 1, 2, 3, 4, 5, 6, 7, 8, 9] (by kernel_rfl) (by kernel_rfl) (by kernel_rfl) ?_
                refine SG.p (v := ?v7_15_0) rfl rfl rfl (fun W => ?h7_15_0) ?r7_15_0
                case h7_15_0 => (first|(go_simp;done)|(go_simp;with_reducible rfl))
                simp only [Act.put, pA, pB, pC]
                refine SG.p (v := ?v7_15_1) rfl rfl rfl (fun W => ?h7_15_1) ?r7_15_1
                case h7_15_1 => (first|(go_simp;done)|(go_simp;with_reducible rfl))
                simp only [Act.put, pA, pB, pC]
                refine SG.l (v := ?v7_15_2) rfl rfl rfl ?h7_15_2 ?r7_15_2
                case h7_15_2 => (first|(go_simp;done)|(go_simp;with_reducible rfl))
                simp only [Act.put, pA, pB, pC]
                refine SG.p (v := ?v7_15_3) rfl rfl rfl (fun W => ?h7_15_3) ?r7_15_3
                case h7_15_3 => (first|(go_simp;done)|(go_simp;with_reducible rfl))
                simp only [Act.put, pA, pB, pC]
                refine SG.l (v := ?v7_15_4) rfl rfl rfl ?h7_15_4 ?r7_15_4
                case h7_15_4 => (first|(go_simp;done)|(go_simp;with_reducible rfl))
                simp only [Act.put, pA, pB, pC]
                refine SG.p (v := ?v7_15_5) rfl rfl rfl (fun W => ?h7_15_5) ?r7_15_5
                case h7_15_5 => (first|(go_simp;done)|(go_simp;with_reducible rfl))
                simp only [Act.put, pA, pB, pC]
                refine SG.p (v := ?v7_15_6) rfl rfl rfl (fun W => ?h7_15_6) ?r7_15_6
                case h7_15_6 => (first|(go_simp;done)|(go_simp;with_reducible rfl))
                simp only [Act.put, pA, pB, pC]
                refine SG.l (v := ?v7_15_7) rfl rfl rfl ?h7_15_7 ?r7_15_7
                case h7_15_7 => (first|(go_simp;done)|(go_simp;with_reducible rfl))
                simp only [Act.put, pA, pB, pC]
                refine SG.p (v := ?v7_15_8) rfl rfl rfl (fun W => ?h7_15_8) ?r7_15_8
                case h7_15_8 => (first|(go_simp;done)|(go_simp;with_reducible rfl))
                simp only [Act.put, pA, pB, pC]
                refine SG.p (v := ?v7_15_9) rfl rfl rfl (fun W => ?h7_15_9) ?r7_15_9
                case h7_15_9 => (first|(go_simp;done)|(go_simp;with_reducible rfl))
                simp only [Act.put, pA, pB, pC]
                simp only [SG]
                obtain ⟨w6, hw6⟩ : ∃ w6, wr.drew.drew = w6 := ⟨_, rfl⟩
                have hbr : Below wr.heap.size wr w6 := by rw [← hw6]; (repeat (first|exact bR _ _|assumption|apply bN|apply bA|apply bD))
                have P2 := blk2 hbr hP.out.1
                have P1 := blk2 hbr hP.out.2.2.2.2.1
                have HB3 := hP.out.2.2.2.2.2.1.trans (hbr.mono hP.out.2.2.2.2.2.1.size)
                rw [hw6]
                clear hw6 hbr hr s0 s1 s2 s3 sf t0 t1 t2 t3 tf r0 r1 r2 rf hcb hx0 hy0
                have HE := Lib.hid (show bindsR c l at_ = none from HB2.out)
                have HP := Lib.hid (And.intro P1 HB3)
                obtain ⟨y0, y1, y2, yf⟩ := cells3 P1
                obtain ⟨z0, z1, z2, zf⟩ := cells3 P2
                have hn1 : (w.heap.size + 1 + 1 = w.heap.size + 1) = False := by simp
                have hn2 : (w.heap.size + 1 = w.heap.size + 1 + 1) = False := by simp
                clear P1 P2 HB3
                go_wp2
                rw [HE.out]
                exact z28t0
        · have HEQ2 := Lib.hid (show bindsR c l at_ = bindG [b0, b1, b2] (l.drop (j + 1)) (c.gates.drop (at_ + (j + 1))) by
            rw [HEQ.out, List.drop_eq_nil_of_le (by omega)]
            rfl)
          have HP := Lib.hid (And.intro p2 (And.intro p0 (And.intro p1 hb1)))
          clear p0 p1 p2 hb1 x0 x1 q0 q1 HI
          go_wp2
          go_roundw
          case rel => exact ⟨j + 1, by omega, by go_num, Lib.hid ⟨b0, b1, b2, HEQ2.out, HP.out⟩⟩
          case measure => simp [intOf]; omega
    · clear p0
      have HE := Lib.hid (show bindsR c l at_ = some [b0, b1, b2] from by rw [HEQ.out, List.drop_eq_nil_of_le (by omega)]; rfl)
      have HP := Lib.hid (And.intro p1 hb1)
      obtain ⟨y0, y1, y2, yf⟩ := cells3 p1
      obtain ⟨z0, z1, z2, zf⟩ := cells3 p2
      have hn1 : (w.heap.size + 1 + 1 = w.heap.size + 1) = False := by simp
      have hn2 : (w.heap.size + 1 = w.heap.size + 1 + 1) = False := by simp
      clear p1 p2 hb1
      go_wp2
      rw [HE.out]
      exact bodyPost_ret (results_list (rs := [.cell 6 157, .tmp 7]) rfl (by simp) (.cell (w.heap.size + 1) 157 _ _ _ rfl (set3 HP.out.1) Tryz.underlying157 rfl (by kernel_rfl) (.tmp .nil))) rfl ⟨_, _, _, true, rfl, rfl, ((HP.out.2.setCell (by first|(simp;done)|(simp;omega)|omega) _).setCell (by first|(simp;done)|(simp;omega)|omega) _).setCell (by first|(simp;done)|(simp;omega)|omega) _⟩
end Go.Proofs.YtfommmijojfdbaaGreatDoor
