/- Spoil and drawn once more: what is spoiled lies in the blocks from B up to D, no other turns. -/
import Derived.Test.YtfommmijojfdbaaGreatDoorZ23
set_option linter.all false
namespace Go.Proofs.YtfommmijojfdbaaGreatDoor
open Go.RowKit

def ClrI (T : TypeId) (sz B D : Nat) (W : World) (v : Value) (n : Nat) : Prop :=
  (v = .slice none 0 0 ∧ n = 0) ∨ ∃ g cap cs, v = .slice (some ⟨g, 0, none⟩) n cap ∧ W.heap[g]? = some (.cells cs T (0, 0)) ∧ n * sz ≤ cs.size ∧ B ≤ g ∧ g < D
def WipeI (T : TypeId) (B D : Nat) (W W' : World) : Prop := Wipes T B W W' ∧ ∀ g, D ≤ g → W'.heap[g]? = W.heap[g]?
/-- Nothing turns but from B up to D; there may be new blocks. -/
def KI (B D : Nat) (w w' : World) : Prop := Below B w w' ∧ ∀ g, D ≤ g → g < w.heap.size → w'.heap[g]? = w.heap[g]?
section
variable {B D n sz : Nat} {w w1 w2 W W' : World} {T T' : TypeId} {v : Value}
theorem KI.of (hb : Below w1.heap.size w1 w2) (h : B ≤ w1.heap.size) : KI B D w1 w2 := ⟨hb.mono h, fun g _ hl => hb.block g hl⟩
theorem KI.tr (h : KI B D w w1) (k : KI B D w1 w2) : KI B D w w2 := ⟨h.1.trans k.1, fun g hd hl => (k.2 g hd (Nat.lt_of_lt_of_le hl h.1.size)).trans (h.2 g hd hl)⟩
theorem KI.wipe (h : WipeI T B D W W') : KI B D W W' := ⟨h.1.below, fun g hd _ => h.2 g hd⟩
theorem ClrI.below (h : ClrI T sz B D W v n) (hb : Below W.heap.size W W') : ClrI T sz B D W' v n := by
  rcases h with h | ⟨g, cap, cs, rfl, hh, hs, hB⟩
  · exact .inl h
  · exact .inr ⟨g, cap, cs, rfl, blk2 hb hh, hs, hB⟩
theorem ClrI.wiped (h : ClrI T' sz B D W v n) (hw : WipeI T B D W W') : ClrI T' sz B D W' v n := by
  rcases h with h | ⟨g, cap, cs, rfl, hh, hs, hb⟩
  · exact .inl h
  · rcases hw.1.2 g _ hh with h' | ⟨c1, c2, e, h', hz, _⟩
    · exact .inr ⟨g, cap, cs, rfl, h', hs, hb⟩
    · cases e
      exact .inr ⟨g, cap, c2, rfl, h', by omega, hb⟩
end
theorem setCells_ne {b g : Nat} (hg : g ≠ b) : ∀ (vs : List Value) (o : Nat) (W : World), (W.setCells b o vs).heap[g]? = W.heap[g]?
  | [], _, _ => rfl
  | v :: vs, o, W => (setCells_ne hg vs (o + 1) _).trans (heap_setCell_other W ⟨b, o, none⟩ g v hg)
theorem run_clearI {P : Program} (T t ty : TypeId) (z : Value) (sz : Nat) (ht : P.underlying t = some (.slice T)) (hv : ∀ w, (zeroValue T).run P w = .ok z w) (hz : z.cells.size = sz) (h1 : ∀ i, i < sz → (z.cells[i]!).oneCell' = true) (hs : 0 < sz)
    {B D m : Nat} {W : World} {v : Value} (h : ClrI T sz B D W v m) : ∃ W', (Builtin.clear_ #[t] ty #[v]).run P W = .ok (.tuple #[]) W' ∧ WipeI T B D W W' := by
  rcases h with ⟨rfl, rfl⟩ | ⟨g, cap, cs, rfl, hh, hsz, hB, hD⟩
  · exact ⟨W, by simp [Builtin.clear_, run_underlying ht], Wipes.refl _ _ _, fun _ _ => rfl⟩
  · rcases m with _ | m
    · exact ⟨W, by simp [Builtin.clear_, run_underlying ht], Wipes.refl _ _ _, fun _ _ => rfl⟩
    · obtain ⟨hc, hf⟩ := Clr.cells (B := B) hh hsz
      have hlen : (Builtin.zeroCells z.cells (m + 1)).toList.length = (m + 1) * sz := by simp [Builtin.zeroCells, hz]
      have hst := run_storeCells_cells (P := P) g 0 (Builtin.zeroCells z.cells (m + 1)).toList 0 W (fun j hj => by simpa using hc j (by omega)) (fun j _ => by simpa using hf _) (by
        intro u hu
        simp only [Builtin.zeroCells, Array.toList_map, Array.toList_range, List.mem_map, List.mem_range] at hu
        obtain ⟨i, hi, rfl⟩ := hu
        exact h1 _ (by rw [hz]; exact Nat.mod_lt _ hs))
      exact ⟨W.setCells g 0 (Builtin.zeroCells z.cells (m + 1)).toList, by simp [Builtin.clear_, run_underlying ht, hv, hst], setCells_wipes hB _ _ _ _ hh, fun k hk => setCells_ne (by omega) _ _ _⟩
def EClrI (B D : Nat) (W : World) (g : G) (cs : List Value) : Prop := ∃ A c, cs = [.int .i64 g.kind, .slice A g.wires.length c, .int .i64 g.bit, .int .i64 g.cif] ∧ ClrI 3 1 B D W (.slice A g.wires.length c) g.wires.length
theorem EClrI.stays (B D : Nat) : Stays (EClrI B D) := fun _ _ _ _ hb ⟨A, c, e, h⟩ => ⟨A, c, e, h.below hb⟩
theorem ClrI.of {T : TypeId} {sz B n : Nat} {W : World} {v : Value} (h : Clr T sz B W v n) : ClrI T sz B W.heap.size W v n := by
  rcases h with h | ⟨g, cap, cs, rfl, hh, hs, hB⟩
  · exact .inl h
  · exact .inr ⟨g, cap, cs, rfl, hh, hs, hB, blk_lt hh⟩
theorem App.clrI {α : Type} {E : World → α → List Value → Prop} {T sz B D : Nat} {w : World} {v : Value} {xs : List α} (h : App E T sz B w v xs) (hD : ∀ q, v.ownBlock = some q → q < D) : ClrI T sz B D w v xs.length := by
  obtain ⟨cs, ho, hr⟩ := h
  rcases ho.2 with ⟨rfl, h0⟩ | ⟨g, cap, cur, rfl, hb, hh, hc, hl⟩
  · exact .inl ⟨rfl, h0⟩
  · refine .inr ⟨g, cap, _, rfl, hh, ?_, hb, hD g rfl⟩
    have h1 := Nat.mul_le_mul_right sz hc
    have h2 := hl.2.1
    omega
/-- What is spoiled: rows from B up to D. -/
def Spo (B D : Nat) (W : World) (v : Value) (gs : List G) : Prop := App (EClrI B D) 55 4 B W v gs ∧ ∀ q, v.ownBlock = some q → q < D
theorem Spo.below {B D : Nat} {W W' : World} {v : Value} {gs : List G} (h : Spo B D W v gs) (hb : Below W.heap.size W W') : Spo B D W' v gs := ⟨h.1.below (EClrI.stays _ _) hb, h.2⟩
theorem Own.spo {B : Nat} {W : World} {v : Value} {gs : List G} (h : Own 3 55 B W v gs) : Spo B W.heap.size W v gs := by
  obtain ⟨ps, rfl, _, h⟩ := h
  refine ⟨h.mapf fun p cs ⟨e, hp⟩ => ?_, fun q e => ?_⟩
  · obtain ⟨A, c, e2, _⟩ := hp.form
    exact ⟨A, c, by rw [e, e2], by rw [← e2]; exact ClrI.of hp.clr⟩
  · rcases h.block with h | ⟨k', h, _, h'⟩
    · rw [h] at e; cases e
    · rw [h] at e; cases e; exact h'
set_option maxRecDepth 100000 in
set_option maxHeartbeats 4000000 in
theorem Spoil_in (B D : Nat) (A : Option Addr) (kc : Nat) (c : C) (w : World) (h : Spo B D w (.slice A c.gates.length kc) c.gates) (hl : c.gates.length ≤ 1000000) (hB : B ≤ w.heap.size) :
    Calls Tryz.prog 63 #[.agg #[.int .i64 c.wires, .int .i64 c.bits, .slice A c.gates.length kc]] w fun e w' => (∃ v, e = .returned v) ∧ KI B D w w' := by
  have hzi : ∀ W, (zeroValue 3).run Tryz.prog W = .ok (.int .i64 0) W := fun W => by kernel_rfl
  have hzg : ∀ W, (zeroValue 55).run Tryz.prog W = .ok (.agg #[.int .i64 0, .slice none 0 0, .int .i64 0, .int .i64 0]) W := fun W => by kernel_rfl
  have HZ := Lib.hid (And.intro hzi hzg)
  have HO := Lib.hid h
  clear hzi hzg h
  go_enter Tryz.func63, Tryz.ntmps63
  go_upto_region 1 with fail
  obtain ⟨W1, hW1⟩ : ∃ W1, w.alloc (.cells #[.int .i64 c.wires, .int .i64 c.bits, .slice A c.gates.length kc] 24) = W1 := ⟨_, rfl⟩
  have hb1 : Below w.heap.size w W1 := by rw [← hW1]; (repeat (first|exact bR _ _|assumption|apply bN|apply bA|apply bD))
  have p0 : W1.heap[w.heap.size]? = some (.cells #[.int .i64 c.wires, .int .i64 c.bits, .slice A c.gates.length kc] 24 (0, 0)) := by rw [← hW1]; exact blk_alloc _ _ _ rfl
  rw [hW1]
  clear hW1
  obtain ⟨k0, k1, k2, kf⟩ := cells3 p0
  have HS := Lib.hid (show App (EClrI B D) 55 4 B W1 (.slice A c.gates.length kc) c.gates ∧ W1.heap[w.heap.size]? = some (.cells #[.int .i64 c.wires, .int .i64 c.bits, .slice A c.gates.length kc] 24 (0, 0)) ∧ KI B D w W1 from ⟨HO.out.1.below (EClrI.stays _ _) hb1, p0, KI.of hb1 hB⟩)
  clear p0 hb1
  go_wp2
  go_loopw [3, 7] (fun _ i wr => ∃ k : Nat, k ≤ c.gates.length ∧ i = .int .i64 k ∧ Hid (App (EClrI B D) 55 4 B wr (.slice A c.gates.length kc) c.gates ∧ wr.heap[w.heap.size]? = some (.cells #[.int .i64 c.wires, .int .i64 c.bits, .slice A c.gates.length kc] 24 (0, 0)) ∧ KI B D w wr)) (fun _ i _ => c.gates.length - (intOf i).toNat)
  case atStart => exact ⟨0, Nat.zero_le _, rfl, HS⟩
  case round =>
    clear HS k0 k1 k2 kf
    obtain ⟨k, hk, rfl, HI⟩ := hrel
    by_cases hlt : k < c.gates.length
    · obtain ⟨A9, c9, e9, _, hr⟩ := HI.out.1.rd (by omega)
      cases e9
      obtain ⟨b, o, cs, rfl, ⟨A2, c2, rfl, hclr⟩, _, hcs⟩ := hr.2 k _ (List.getElem?_eq_getElem hlt)
      have g0 := hcs 0 _ rfl
      have g1 := hcs 1 _ rfl
      have g2 := hcs 2 _ rfl
      have g3 := hcs 3 _ rfl
      rw [Nat.add_zero] at g0
      obtain ⟨g, hg⟩ : ∃ g, c.gates[k] = g := ⟨_, rfl⟩
      rw [hg] at g0 g1 g2 g3 hclr
      have hbx := below_alloc (Below.refl wr.heap.size wr) (.cells #[.int .i64 g.kind, .slice A2 g.wires.length c2, .int .i64 g.bit, .int .i64 g.cif] 55)
      have HC := Lib.hid (hclr.below hbx)
      have HBX := Lib.hid hbx
      have hold := olds wr
      have lb := cell_lt g0
      clear hcs hr hclr hbx hg
      obtain ⟨w3, hrun, hw3⟩ := run_clearI (P := Tryz.prog) 3 25 0 (.int .i64 0) 1 Tryz.underlying25 HZ.out.1 rfl (by decide) (by decide) HC.out
      have HW := Lib.hid hw3
      clear hw3
      go_wp2
      go_roundw
      case rel =>
        obtain ⟨h1, h2, h3⟩ := HI.out
        have hz := h3.1.size
        have hE : ∀ x cs, EClrI B D (wr.alloc (.cells #[.int .i64 g.kind, .slice A2 g.wires.length c2, .int .i64 g.bit, .int .i64 g.cif] 55)) x cs → EClrI B D w3 x cs := fun x cs ⟨A, c, e, h⟩ => ⟨A, c, e, h.wiped HW.out⟩
        refine ⟨k + 1, by omega, by go_num, Lib.hid ⟨(h1.below (EClrI.stays _ _) HBX.out).wiped HW.out.1 (by decide) hE, ?_, ?_⟩⟩
        · rcases HW.out.1.2 _ _ (blk2 HBX.out h2) with h | ⟨_, _, e, _⟩
          · exact h
          · injection e with _ e; exact absurd e (by decide)
        · exact (h3.tr (KI.of HBX.out (by omega))).tr (KI.wipe HW.out)
      case measure => simp [intOf]; omega
    · obtain ⟨h1, h2, h3⟩ := HI.out
      obtain ⟨k0, k1, k2, kf⟩ := cells3 h2
      have HC := Lib.hid (And.intro (h1.clrI HO.out.2) h3)
      clear h1 h2 h3 HI
      obtain ⟨w3, hrun, hw3⟩ := run_clearI (P := Tryz.prog) 55 22 0 (.agg #[.int .i64 0, .slice none 0 0, .int .i64 0, .int .i64 0]) 4 Tryz.underlying22 HZ.out.2 rfl (by decide) (by decide) HC.out.1
      have HW := Lib.hid hw3
      clear hw3
      go_wp2
      go_end0
      exact ⟨⟨_, rfl⟩, HC.out.2.tr (KI.wipe HW.out)⟩
set_option maxRecDepth 100000 in
set_option maxHeartbeats 4000000 in
theorem drawn_in (B E : Nat) (A D : Option Addr) (k m : Nat) (c d : C) (e1 e2 : Int) (w : World) (h : Spo B E w (.slice A c.gates.length k) c.gates) (hr : RdG w A c.gates) (hl : c.gates.length ≤ 1000000) (h' : RdG w D d.gates) (hB : B ≤ w.heap.size) :
    Calls Tryz.prog 20 #[.agg #[.int .i64 c.wires, .int .i64 c.bits, .slice A c.gates.length k], .agg #[.int .i64 d.wires, .int .i64 d.bits, .slice D d.gates.length m], .int .i64 e1, .int .i64 e2] w fun e w' => e = .returned (.bool (decide (e1 = e2) && decide (c = d))) ∧ KI B E w w' := by
  have HH := Lib.hid (And.intro h (And.intro h' hr))
  clear h h' hr
  obtain ⟨W1, hW1⟩ : ∃ W1, (w.alloc (.cells #[.int .i64 c.wires, .int .i64 c.bits, .slice A c.gates.length k] 24)).alloc (.cells #[.int .i64 d.wires, .int .i64 d.bits, .slice D d.gates.length m] 24) = W1 := ⟨_, rfl⟩
  have hb1 : Below w.heap.size w W1 := by rw [← hW1]; (repeat (first|exact bR _ _|assumption|apply bN|apply bA|apply bD))
  have p0 : W1.heap[w.heap.size]? = some (.cells #[.int .i64 c.wires, .int .i64 c.bits, .slice A c.gates.length k] 24 (0, 0)) := by rw [← hW1]; exact alloc_old (blk_alloc _ _ _ rfl)
  have p1 : W1.heap[w.heap.size + 1]? = some (.cells #[.int .i64 d.wires, .int .i64 d.bits, .slice D d.gates.length m] 24 (0, 0)) := by rw [← hW1]; exact blk_alloc _ _ _ (by simp)
  by_cases he : e1 = e2
  · subst he
    have hs := kSame_any A D k m c d W1 (HH.out.2.2.bG hb1) (HH.out.2.1.bG hb1)
    obtain ⟨q, hq⟩ : ∃ q, decide (c = d) = q := ⟨_, rfl⟩
    rw [hq] at hs
    have HQ := Lib.hid hq
    clear hq
    go_enter Tryz.func20, Tryz.ntmps20
    go_upto_region 1 with fail
    try rw [hW1]
    clear hW1
    obtain ⟨k0, k1, k2, kf⟩ := cells3 p0
    obtain ⟨t0, t1, t2, tf⟩ := cells3 p1
    have HP := Lib.hid (And.intro p0 (And.intro p1 hb1))
    clear p0 p1 hb1
    go_wp2_with fail
    refine hs.mono ?_
    clear hs
    rintro e w2 ⟨rfl, hb⟩
    have q0 := blk2 hb HP.out.1
    have hb2 := HP.out.2.2.trans (hb.mono HP.out.2.2.size)
    clear k0 k1 k2 kf t0 t1 t2 tf
    obtain ⟨k0, k1, k2, kf⟩ := cells3 q0
    have hsp := Spoil_in B E A k c w2 (HH.out.1.below hb2) (by omega) (Nat.le_trans hB hb2.size)
    have HB2 := Lib.hid hb2
    clear q0 hb2 hb
    go_wp2_with fail
    refine hsp.mono ?_
    clear hsp
    rintro e w3 ⟨⟨v, rfl⟩, hb3⟩
    have HB3 := Lib.hid ((KI.of HB2.out hB).tr hb3)
    clear hb3 k0 k1 k2 kf
    go_wp2
    go_ret
    exact ⟨ret_bool (by rw [HQ.out]; simp), HB3.out⟩
  · have hne : (e1 == e2) = false := by simpa using he
    have HE := Lib.hid he
    clear he
    go_enter Tryz.func20, Tryz.ntmps20
    go_upto_region 1 with fail
    try rw [hW1]
    clear hW1
    obtain ⟨k0, k1, k2, kf⟩ := cells3 p0
    have hsp := Spoil_in B E A k c W1 (HH.out.1.below hb1) (by omega) (Nat.le_trans hB hb1.size)
    have HB2 := Lib.hid hb1
    clear p0 p1 hb1
    go_wp2_with fail
    refine hsp.mono ?_
    clear hsp
    rintro e w3 ⟨⟨v, rfl⟩, hb3⟩
    have HB3 := Lib.hid ((KI.of HB2.out hB).tr hb3)
    clear hb3 k0 k1 k2 kf
    go_wp2
    go_ret
    exact ⟨ret_bool (by rw [decide_eq_false HE.out]; rfl), HB3.out⟩
end Go.Proofs.YtfommmijojfdbaaGreatDoor
