/- Part 21 of the proof that 'spoondriftlaw19.RulesApplies' holds for every input; it has no condition beyond the statement's own. -/
import Derived.Test.YtfommmijojfdbaaGreatDoorZ17
set_option linter.all false
namespace Go.Proofs.YtfommmijojfdbaaGreatDoor
open Go.RowKit
theorem Clr.below {T : TypeId} {sz B : Nat} {W W' : World} {v : Value} {n : Nat} (h : Clr T sz B W v n) (hb : Below W.heap.size W W') : Clr T sz B W' v n := by
  rcases h with h | ⟨g, cap, cs, rfl, hh, hs, hB⟩
  · exact .inl h
  · exact .inr ⟨g, cap, cs, rfl, blk2 hb hh, hs, hB⟩
def EClrG (B : Nat) (W : World) (g : G) (cs : List Value) : Prop := ∃ A c, cs = [.int .i64 g.kind, .slice A g.wires.length c, .int .i64 g.bit, .int .i64 g.cif] ∧ Clr 3 1 B W (.slice A g.wires.length c) g.wires.length
def EClrM (B : Nat) (W : World) (s : M) (cs : List Value) : Prop := ∃ A c, cs = [.int .i64 s.rule, .int .i64 s.at_, .bool s.back, .slice A s.wires.length c] ∧ Clr 3 1 B W (.slice A s.wires.length c) s.wires.length
theorem Own.eclr {B : Nat} {W : World} {v : Value} {gs : List G} (h : Own 3 55 B W v gs) : App (EClrG B) 55 4 B W v gs := by
  obtain ⟨ps, rfl, _, h⟩ := h
  refine h.mapf fun p cs ⟨e, hp⟩ => ?_
  obtain ⟨A, c, e2, _⟩ := hp.form
  exact ⟨A, c, by rw [e, e2], by rw [← e2]; exact hp.clr⟩
theorem EClrG.stays (B : Nat) : Stays (EClrG B) := fun _ _ _ _ hb ⟨A, c, e, h⟩ => ⟨A, c, e, h.below hb⟩
theorem EClrM.stays (B : Nat) : Stays (EClrM B) := fun _ _ _ _ hb ⟨A, c, e, h⟩ => ⟨A, c, e, h.below hb⟩
set_option maxRecDepth 100000 in
set_option maxHeartbeats 4000000 in
theorem Spoil_any (B : Nat) (A : Option Addr) (kc : Nat) (c : C) (w : World) (h : Own 3 55 B w (.slice A c.gates.length kc) c.gates) (hl : c.gates.length ≤ 1000000) (hB : B ≤ w.heap.size) :
    Calls Tryz.prog 63 #[.agg #[.int .i64 c.wires, .int .i64 c.bits, .slice A c.gates.length kc]] w fun e w' => (∃ v, e = .returned v) ∧ Below B w w' := by
  have hzi : ∀ W, (zeroValue 3).run Tryz.prog W = .ok (.int .i64 0) W := fun W => by kernel_rfl
  have hzg : ∀ W, (zeroValue 55).run Tryz.prog W = .ok (.agg #[.int .i64 0, .slice none 0 0, .int .i64 0, .int .i64 0]) W := fun W => by kernel_rfl
  have HZ := Lib.hid (And.intro hzi hzg)
  have HO := Lib.hid h.eclr
  clear hzi hzg h
  go_enter Tryz.func63, Tryz.ntmps63
  go_upto_region 1 with fail
  obtain ⟨W1, hW1⟩ : ∃ W1, w.alloc (.cells #[.int .i64 c.wires, .int .i64 c.bits, .slice A c.gates.length kc] 24) = W1 := ⟨_, rfl⟩
  have hb1 : Below w.heap.size w W1 := by rw [← hW1]; (repeat (first|exact bR _ _|assumption|apply bN|apply bA|apply bD))
  have p0 : W1.heap[w.heap.size]? = some (.cells #[.int .i64 c.wires, .int .i64 c.bits, .slice A c.gates.length kc] 24 (0, 0)) := by rw [← hW1]; exact blk_alloc _ _ _ rfl
  rw [hW1]
  clear hW1
  obtain ⟨k0, k1, k2, kf⟩ := cells3 p0
  have HS := Lib.hid (show App (EClrG B) 55 4 B W1 (.slice A c.gates.length kc) c.gates ∧ W1.heap[w.heap.size]? = some (.cells #[.int .i64 c.wires, .int .i64 c.bits, .slice A c.gates.length kc] 24 (0, 0)) ∧ Below B w W1 from ⟨HO.out.below (EClrG.stays _) hb1, p0, hb1.mono hB⟩)
  clear p0 hb1
  go_wp2
  go_loopw [3, 7] (fun _ i wr => ∃ k : Nat, k ≤ c.gates.length ∧ i = .int .i64 k ∧ Hid (App (EClrG B) 55 4 B wr (.slice A c.gates.length kc) c.gates ∧ wr.heap[w.heap.size]? = some (.cells #[.int .i64 c.wires, .int .i64 c.bits, .slice A c.gates.length kc] 24 (0, 0)) ∧ Below B w wr)) (fun _ i _ => c.gates.length - (intOf i).toNat)
  case atStart => exact ⟨0, Nat.zero_le _, rfl, HS⟩
  case round =>
    clear HS k0 k1 k2 kf
    obtain ⟨k, hk, rfl, HI⟩ := hrel
    by_cases hlt : k < c.gates.length
    · obtain ⟨A9, c9, e9, _, hr⟩ := HI.out.1.rd (by omega)
      cases e9
      obtain ⟨b, o, cs, rfl, ⟨A2, c2, rfl, hclr⟩, _, hcs⟩ := hr.2 k _ (List.getElem?_eq_getElem hlt)
      have g0 := hcs 0 _ rfl
      have g1 := hcs 1 _ rfl
      have g2 := hcs 2 _ rfl
      have g3 := hcs 3 _ rfl
      rw [Nat.add_zero] at g0
      obtain ⟨g, hg⟩ : ∃ g, c.gates[k] = g := ⟨_, rfl⟩
      rw [hg] at g0 g1 g2 g3 hclr
      have hbx := below_alloc (Below.refl wr.heap.size wr) (.cells #[.int .i64 g.kind, .slice A2 g.wires.length c2, .int .i64 g.bit, .int .i64 g.cif] 55)
      have HC := Lib.hid (hclr.below hbx)
      have HBX := Lib.hid hbx
      have hold := olds wr
      have lb := cell_lt g0
      clear hcs hr hclr hbx hg
      obtain ⟨w3, hrun, hw3⟩ := run_clear_any (P := Tryz.prog) 3 25 0 (.int .i64 0) 1 Tryz.underlying25 HZ.out.1 rfl (by decide) (by decide) HC.out
      have HW := Lib.hid hw3
      clear hw3
      go_wp2
      go_roundw
      case rel =>
        obtain ⟨h1, h2, h3⟩ := HI.out
        have hz := h3.size
        have hE : ∀ x cs, EClrG B (wr.alloc (.cells #[.int .i64 g.kind, .slice A2 g.wires.length c2, .int .i64 g.bit, .int .i64 g.cif] 55)) x cs → EClrG B w3 x cs := fun x cs ⟨A, c, e, h⟩ => ⟨A, c, e, h.wiped HW.out⟩
        refine ⟨k + 1, by omega, by go_num, Lib.hid ⟨(h1.below (EClrG.stays _) HBX.out).wiped HW.out (by decide) hE, ?_, ?_⟩⟩
        · rcases HW.out.2 _ _ (blk2 HBX.out h2) with h | ⟨_, _, e, _⟩
          · exact h
          · injection e with _ e; exact absurd e (by decide)
        · exact (h3.trans (HBX.out.mono (by omega))).trans HW.out.below
      case measure => simp [intOf]; omega
    · obtain ⟨h1, h2, h3⟩ := HI.out
      obtain ⟨k0, k1, k2, kf⟩ := cells3 h2
      have HC := Lib.hid (And.intro h1.clr h3)
      clear h1 h2 h3 HI
      obtain ⟨w3, hrun, hw3⟩ := run_clear_any (P := Tryz.prog) 55 22 0 (.agg #[.int .i64 0, .slice none 0 0, .int .i64 0, .int .i64 0]) 4 Tryz.underlying22 HZ.out.2 rfl (by decide) (by decide) HC.out.1
      have HW := Lib.hid hw3
      clear hw3
      go_wp2
      go_end0
      exact ⟨⟨_, rfl⟩, HC.out.2.trans HW.out.below⟩
end Go.Proofs.YtfommmijojfdbaaGreatDoor
