/- Part 14 of the proof that 'spoondriftlaw19.RulesApplies' holds for every input; it has no condition beyond the statement's own. -/
import Derived.Test.YtfommmijojfdbaaGreatDoorZ10
import Derived.Test.YtfommmijojfdbaaGreatDoorZ04
import Derived.RegionTactic
import Derived.Test.YtfommmijojfdbaaGreatDoorZ12
import Derived.Test.YtfommmijojfdbaaGreatDoorZ05
import Derived.BigQuiet
import Derived.Deep.DeepCutAuto
import Derived.MapKept
import Derived.Deep.RegionHeld3
set_option linter.all false
namespace Go.Proofs.YtfommmijojfdbaaGreatDoor
open Go.RowKit
theorem drew_heap (w : World) : w.drew.heap = w.heap := rfl
theorem two8 {w W : World} {b : Nat} {u0 u1 u2 u3 v0 v1 v2 v3 x0 x1 x2 x3 y0 y1 y2 y3 : Value} {T : TypeId} (h1 : W.heap[b]? = some (.cells #[x0, x1, x2, x3] T (0, 0))) (h2 : W.heap[b + 1]? = some (.cells #[y0, y1, y2, y3] T (0, 0))) (hB : Below w.heap.size w W) (hb : w.heap.size ≤ b) :
    (((((((((W.setCell ⟨b, 0, none⟩ u0).setCell ⟨b, 1, none⟩ u1).setCell ⟨b, 2, none⟩ u2).setCell ⟨b, 3, none⟩ u3).setCell ⟨b + 1, 0, none⟩ v0).setCell ⟨b + 1, 1, none⟩ v1).setCell ⟨b + 1, 2, none⟩ v2).setCell ⟨b + 1, 3, none⟩ v3).drew).heap[b]? = some (.cells #[u0, u1, u2, u3] T (0, 0)) ∧ (((((((((W.setCell ⟨b, 0, none⟩ u0).setCell ⟨b, 1, none⟩ u1).setCell ⟨b, 2, none⟩ u2).setCell ⟨b, 3, none⟩ u3).setCell ⟨b + 1, 0, none⟩ v0).setCell ⟨b + 1, 1, none⟩ v1).setCell ⟨b + 1, 2, none⟩ v2).setCell ⟨b + 1, 3, none⟩ v3).drew).heap[b + 1]? = some (.cells #[v0, v1, v2, v3] T (0, 0)) ∧ Below w.heap.size w (((((((((W.setCell ⟨b, 0, none⟩ u0).setCell ⟨b, 1, none⟩ u1).setCell ⟨b, 2, none⟩ u2).setCell ⟨b, 3, none⟩ u3).setCell ⟨b + 1, 0, none⟩ v0).setCell ⟨b + 1, 1, none⟩ v1).setCell ⟨b + 1, 2, none⟩ v2).setCell ⟨b + 1, 3, none⟩ v3).drew) := by
  have a1 : (((((((((W.setCell ⟨b, 0, none⟩ u0).setCell ⟨b, 1, none⟩ u1).setCell ⟨b, 2, none⟩ u2).setCell ⟨b, 3, none⟩ u3).setCell ⟨b + 1, 0, none⟩ v0).setCell ⟨b + 1, 1, none⟩ v1).setCell ⟨b + 1, 2, none⟩ v2).setCell ⟨b + 1, 3, none⟩ v3)).heap[b]? = some (.cells #[u0, u1, u2, u3] T (0, 0)) := by
    rw [set4_ne (by omega)]; exact set4 h1
  have a2 : (((((((((W.setCell ⟨b, 0, none⟩ u0).setCell ⟨b, 1, none⟩ u1).setCell ⟨b, 2, none⟩ u2).setCell ⟨b, 3, none⟩ u3).setCell ⟨b + 1, 0, none⟩ v0).setCell ⟨b + 1, 1, none⟩ v1).setCell ⟨b + 1, 2, none⟩ v2).setCell ⟨b + 1, 3, none⟩ v3)).heap[b + 1]? = some (.cells #[v0, v1, v2, v3] T (0, 0)) := by
    refine set4 (x0 := y0) (x1 := y1) (x2 := y2) (x3 := y3) ?_
    rw [set4_ne (by omega)]; exact h2
  refine ⟨by rw [drew_heap]; exact a1, by rw [drew_heap]; exact a2, Below.drew ?_⟩
  have h' : w.heap.size ≤ b + 1 := by omega
  exact (((((((hB.setCell (p := ⟨b, 0, none⟩) hb _).setCell (p := ⟨b, 1, none⟩) hb _).setCell (p := ⟨b, 2, none⟩) hb _).setCell (p := ⟨b, 3, none⟩) hb _).setCell (p := ⟨b + 1, 0, none⟩) h' _).setCell (p := ⟨b + 1, 1, none⟩) h' _).setCell (p := ⟨b + 1, 2, none⟩) h' _).setCell (p := ⟨b + 1, 3, none⟩) h' _
set_option maxRecDepth 100000 in
set_option maxHeartbeats 4000000 in
theorem two_any (A : Option Addr) (k : Nat) (c : C) (i j : Nat) (w : World) (h : RdG w A c.gates) (hc : check c = 0) (hi : i < c.gates.length) :
    Calls Tryz.prog 163 #[.agg #[.int .i64 c.wires, .int .i64 c.bits, .slice A c.gates.length k], .int .i64 i, .int .i64 j] w fun e w' => Below w.heap.size w w' ∧
      (j < c.gates.length → ∃ B B' d d' g h, c.gates[i]? = some g ∧ c.gates[j]? = some h ∧ e = .returned (.tuple #[.agg #[.int .i64 g.kind, .slice B g.wires.length d, .int .i64 g.bit, .int .i64 g.cif], .agg #[.int .i64 h.kind, .slice B' h.wires.length d', .int .i64 h.bit, .int .i64 h.cif], .int .i64 0]) ∧ RdI w' B g.wires ∧ RdI w' B' h.wires) ∧
      (c.gates.length ≤ j → e = .returned (.tuple #[.agg #[.int .i64 0, .slice none 0 0, .int .i64 0, .int .i64 0], .agg #[.int .i64 0, .slice none 0 0, .int .i64 0, .int .i64 0], .int .i64 1])) := by
  have HR := Lib.hid h
  have hl := h.1
  clear h
  have h0 : (check c != 0) = false := by rw [hc]; rfl
  have hi0 : decide ((i : Int) < 0) = false := by simp
  have hj0 : decide ((j : Int) < 0) = false := by simp
  have hi1 : decide ((c.gates.length : Int) ≤ (i : Int)) = false := by simp; omega
  by_cases hj : j < c.gates.length
  · have hj1 : decide ((c.gates.length : Int) ≤ (j : Int)) = false := by simp; omega
    go_enter Tryz.func163, Tryz.ntmps163
    go_wp2_with fail
    refine (Check_any A k c _ (HR.out.bG (by (repeat (first|exact bR _ _|assumption|apply bN|apply bA|apply bD))))).mono ?_
    rintro e w2 ⟨rfl, hb⟩
    have e0 := (hb.block w.heap.size (by simp; omega)).trans ((Below.heap_alloc _ _ _ (by simp; omega)).trans ((Below.heap_alloc _ _ _ (by simp)).trans (heap_alloc_new _ _)))
    have e1 := (hb.block (w.heap.size + 1) (by simp)).trans ((Below.heap_alloc _ _ _ (by simp)).trans ((show w.heap.size + 1 = (w.alloc (.cells #[.int .i64 c.wires, .int .i64 c.bits, .slice A c.gates.length k] 24)).heap.size by simp) ▸ heap_alloc_new (w.alloc (.cells #[.int .i64 c.wires, .int .i64 c.bits, .slice A c.gates.length k] 24)) (.cells #[.int .i64 0, .slice none 0 0, .int .i64 0, .int .i64 0] 55)))
    have e2 := (hb.block (w.heap.size + 1 + 1) (by simp)).trans ((show w.heap.size + 1 + 1 = ((w.alloc (.cells #[.int .i64 c.wires, .int .i64 c.bits, .slice A c.gates.length k] 24)).alloc (.cells #[.int .i64 0, .slice none 0 0, .int .i64 0, .int .i64 0] 55)).heap.size by simp) ▸ heap_alloc_new ((w.alloc (.cells #[.int .i64 c.wires, .int .i64 c.bits, .slice A c.gates.length k] 24)).alloc (.cells #[.int .i64 0, .slice none 0 0, .int .i64 0, .int .i64 0] 55)) (.cells #[.int .i64 0, .slice none 0 0, .int .i64 0, .int .i64 0] 55))
    have HB := Lib.hid (show Below w.heap.size w w2 from Below.trans (b := _) (by (repeat (first|exact bR _ _|assumption|apply bN|apply bA|apply bD))) (hb.mono (by simp; omega)))
    clear hb
    have HE := Lib.hid (And.intro e1 e2)
    obtain ⟨_, _, _, hz0⟩ := cells3 e0
    obtain ⟨_, _, _, _, hz1⟩ := cells4 e1
    obtain ⟨_, _, _, _, hz2⟩ := cells4 e2
    clear e0 e1 e2
    obtain ⟨b, o, B1, d1, rfl, g0, g1, g2, g3, gc, gr⟩ := HR.out.gate i hi
    obtain ⟨b', o', B2, d2, hA, k0, k1, k2, k3, kc', kr⟩ := HR.out.gate j hj
    cases hA
    have lb := cell_lt g0
    have hn1 : (b = w.heap.size + 1) = False := by simp; omega
    have hn2 : (b = w.heap.size + 1 + 1) = False := by simp; omega
    have hn3 : (w.heap.size + 1 = b) = False := by simp; omega
    have hn4 : (w.heap.size + 1 + 1 = b) = False := by simp; omega
    have HGR' := Lib.hid (And.intro gr kr)
    replace g0 := kc HB.out g0
    replace g1 := kc HB.out g1
    replace g2 := kc HB.out g2
    replace g3 := kc HB.out g3
    replace k0 := kc HB.out k0
    replace k1 := kc HB.out k1
    replace k2 := kc HB.out k2
    replace k3 := kc HB.out k3
    clear gr kr
    go_wp2_with fail
    go_region
    go_wp2
    have hT := two8 (u0 := .int .i64 c.gates[i].kind) (u1 := .slice B1 c.gates[i].wires.length d1) (u2 := .int .i64 c.gates[i].bit) (u3 := .int .i64 c.gates[i].cif) (v0 := .int .i64 c.gates[j].kind) (v1 := .slice B2 c.gates[j].wires.length d2) (v2 := .int .i64 c.gates[j].bit) (v3 := .int .i64 c.gates[j].cif) HE.out.1 HE.out.2 HB.out (Nat.le_succ _)
    generalize hW : World.drew _ = W9 at hT ⊢
    exact bodyPost_ret (results_list (rs := [.cell 6 55, .cell 7 55, .tmp 8]) rfl (by simp) (.cell (w.heap.size + 1) 55 _ _ _ rfl hT.1 Tryz.underlying55 rfl (by kernel_rfl) (.cell (w.heap.size + 1 + 1) 55 _ _ _ rfl hT.2.1 Tryz.underlying55 rfl (by kernel_rfl) (.tmp .nil)))) rfl
      ⟨hT.2.2, fun _ => ⟨B1, B2, d1, d2, _, _, List.getElem?_eq_getElem hi, List.getElem?_eq_getElem hj, rfl, HGR'.out.1.bI hT.2.2, HGR'.out.2.bI hT.2.2⟩, fun h => absurd h (by omega)⟩
  · have hj1 : decide ((c.gates.length : Int) ≤ (j : Int)) = true := by simp; omega
    go_enter Tryz.func163, Tryz.ntmps163
    go_wp2_with fail
    refine (Check_any A k c _ (HR.out.bG (by (repeat (first|exact bR _ _|assumption|apply bN|apply bA|apply bD))))).mono ?_
    rintro e w2 ⟨rfl, hb⟩
    have e0 := (hb.block w.heap.size (by simp; omega)).trans ((Below.heap_alloc _ _ _ (by simp; omega)).trans ((Below.heap_alloc _ _ _ (by simp)).trans (heap_alloc_new _ _)))
    have e1 := (hb.block (w.heap.size + 1) (by simp)).trans ((Below.heap_alloc _ _ _ (by simp)).trans ((show w.heap.size + 1 = (w.alloc (.cells #[.int .i64 c.wires, .int .i64 c.bits, .slice A c.gates.length k] 24)).heap.size by simp) ▸ heap_alloc_new (w.alloc (.cells #[.int .i64 c.wires, .int .i64 c.bits, .slice A c.gates.length k] 24)) (.cells #[.int .i64 0, .slice none 0 0, .int .i64 0, .int .i64 0] 55)))
    have e2 := (hb.block (w.heap.size + 1 + 1) (by simp)).trans ((show w.heap.size + 1 + 1 = ((w.alloc (.cells #[.int .i64 c.wires, .int .i64 c.bits, .slice A c.gates.length k] 24)).alloc (.cells #[.int .i64 0, .slice none 0 0, .int .i64 0, .int .i64 0] 55)).heap.size by simp) ▸ heap_alloc_new ((w.alloc (.cells #[.int .i64 c.wires, .int .i64 c.bits, .slice A c.gates.length k] 24)).alloc (.cells #[.int .i64 0, .slice none 0 0, .int .i64 0, .int .i64 0] 55)) (.cells #[.int .i64 0, .slice none 0 0, .int .i64 0, .int .i64 0] 55))
    have HB := Lib.hid (show Below w.heap.size w w2 from Below.trans (b := _) (by (repeat (first|exact bR _ _|assumption|apply bN|apply bA|apply bD))) (hb.mono (by simp; omega)))
    clear hb
    have HE := Lib.hid (And.intro e1 e2)
    obtain ⟨_, _, _, hz0⟩ := cells3 e0
    obtain ⟨_, _, _, _, hz1⟩ := cells4 e1
    obtain ⟨_, _, _, _, hz2⟩ := cells4 e2
    clear e0 e1 e2
    go_wp2_with fail
    go_region
    go_wp2
    have hT := two8 (u0 := .int .i64 0) (u1 := .slice none 0 0) (u2 := .int .i64 0) (u3 := .int .i64 0) (v0 := .int .i64 0) (v1 := .slice none 0 0) (v2 := .int .i64 0) (v3 := .int .i64 0) HE.out.1 HE.out.2 HB.out (Nat.le_succ _)
    generalize hW : World.drew _ = W9 at hT ⊢
    exact bodyPost_ret (results_list (rs := [.cell 6 55, .cell 7 55, .tmp 8]) rfl (by simp) (.cell (w.heap.size + 1) 55 _ _ _ rfl hT.1 Tryz.underlying55 rfl (by kernel_rfl) (.cell (w.heap.size + 1 + 1) 55 _ _ _ rfl hT.2.1 Tryz.underlying55 rfl (by kernel_rfl) (.tmp .nil)))) rfl
      ⟨hT.2.2, fun h => absurd h hj, fun _ => rfl⟩
theorem checkG_mem {wires bits : Int} : ∀ {l : List G}, checkG wires bits l = 0 → ∀ g ∈ l, gateErr wires bits g = 0
  | g :: l, h, x, hx => by
    unfold checkG at h
    split at h
    · rename_i h0
      rcases List.mem_cons.1 hx with rfl | hx
      · exact h0
      · exact checkG_mem h x hx
    · rename_i h0; exact absurd h h0
theorem check_gate {c : C} (h : check c = 0) : ∀ g ∈ c.gates, gateErr c.wires c.bits g = 0 ∧ c.wires ≤ 12 := by
  unfold check at h
  split at h
  · cases h
  · split at h
    · cases h
    · rename_i h1 h2
      exact fun g hg => ⟨checkG_mem h g hg, by omega⟩
theorem gate_ok {wires bits : Int} {g : G} (h : gateErr wires bits g = 0) : arity g.kind ≠ 0 ∧ (g.wires.length : Int) = arity g.kind ∧ (∀ n ∈ g.wires, 0 ≤ n ∧ n < wires) ∧ g.wires.Nodup ∧ 0 ≤ g.cif ∧ (g.kind ≠ 13 → g.bit = 0) := by
  unfold gateErr at h
  split at h
  · cases h
  split at h
  · cases h
  split at h
  · cases h
  split at h
  · cases h
  split at h
  · cases h
  split at h
  · cases h
  rename_i h1 h2 h3 h4 h5 h6
  refine ⟨h1, by omega, by simpa using h3, by simpa using h4, by omega, by omega⟩
theorem arity_le (k : Int) : 0 ≤ arity k ∧ arity k ≤ 3 := by unfold arity; (repeat' split) <;> omega
theorem check_right {c : C} (h : check c = 0) (hp : c.gates.all plainG = true) : ∀ g ∈ c.gates, Right g := by
  intro g hg
  obtain ⟨h1, h2⟩ := check_gate h g hg
  have h3 := List.all_eq_true.1 hp g hg
  obtain ⟨_, _, h4, _⟩ := gate_ok h1
  simp only [plainG, decide_eq_true_eq] at h3
  exact ⟨fun x hx => ⟨(h4 x hx).1, by have := (h4 x hx).2; omega⟩, by omega⟩
set_option maxRecDepth 100000 in
set_option maxHeartbeats 4000000 in
theorem Commute_any (A : Option Addr) (k : Nat) (c : C) (i : Nat) (w : World) (h : RdG w A c.gates) (hc : check c = 0) (hp : c.gates.all plainG = true) (hi : i < c.gates.length) :
    Calls Tryz.prog 142 #[.agg #[.int .i64 c.wires, .int .i64 c.bits, .slice A c.gates.length k], .int .i64 i, .int .i64 (i + 1)] w fun e w' => Below w.heap.size w w' ∧
      (∀ g h, c.gates[i]? = some g → c.gates[i + 1]? = some h → e = .returned (.tuple #[.bool (commB g h), .int .i64 0])) ∧ (c.gates.length ≤ i + 1 → e = .returned (.tuple #[.bool false, .int .i64 1])) := by
  have HR := Lib.hid h
  have hG := Lib.hid (check_right hc hp)
  by_cases hj : i + 1 < c.gates.length
  · go_enter Tryz.func142, Tryz.ntmps142
    go_wp2_with fail
    have htw := two_any A k c i (i + 1) (w.alloc (.cells #[.int .i64 c.wires, .int .i64 c.bits, .slice A c.gates.length k] 24)) (HR.out.bG (by (repeat (first|exact bR _ _|assumption|apply bN|apply bA|apply bD)))) hc hi
    refine Calls.mono htw ?_
    rintro e w2 ⟨hb, h1, _⟩
    obtain ⟨B, B', d, d', g, h', hg1, hg2, rfl, hr1, hr2⟩ := h1 hj
    clear h1 htw
    have HX := Lib.hid (And.intro hg1 (And.intro hg2 (And.intro hr1 hr2)))
    have HB := Lib.hid (show Below w.heap.size w w2 from Below.trans (b := _) (by (repeat (first|exact bR _ _|assumption|apply bN|apply bA|apply bD))) (hb.mono (by simp)))
    clear hb hg1 hg2 hr1 hr2
    go_wp2_with fail
    refine (commute_any B B' d d' g h' _ (HX.out.2.2.1.bI (by (repeat (first|exact bR _ _|assumption|apply bN|apply bA|apply bD)))) (HX.out.2.2.2.bI (by (repeat (first|exact bR _ _|assumption|apply bN|apply bA|apply bD)))) (hG.out _ (List.mem_of_getElem? HX.out.1)) (hG.out _ (List.mem_of_getElem? HX.out.2.1))).mono ?_
    rintro e w3 ⟨rfl, hb3⟩
    have HB3 := Lib.hid (show Below w.heap.size w w3 from Below.trans (b := _) (by have := HB.out; (repeat (first|exact bR _ _|assumption|apply bN|apply bA|apply bD))) (hb3.mono (by have := HB.out.size; simp; omega)))
    clear hb3
    go_wp2
    go_ret2
    refine ⟨HB3.out, fun g' h'' e1 e2 => ?_, fun h => absurd h (by omega)⟩
    have e3 := HX.out.1
    have e4 := HX.out.2.1
    rw [e1] at e3
    rw [e2] at e4
    cases e3
    cases e4
    rfl
  · go_enter Tryz.func142, Tryz.ntmps142
    go_wp2_with fail
    have htw := two_any A k c i (i + 1) (w.alloc (.cells #[.int .i64 c.wires, .int .i64 c.bits, .slice A c.gates.length k] 24)) (HR.out.bG (by (repeat (first|exact bR _ _|assumption|apply bN|apply bA|apply bD)))) hc hi
    refine Calls.mono htw ?_
    rintro e w2 ⟨hb, _, h1⟩
    cases h1 (by omega)
    clear h1 htw
    have HB := Lib.hid (show Below w.heap.size w w2 from Below.trans (b := _) (by (repeat (first|exact bR _ _|assumption|apply bN|apply bA|apply bD))) (hb.mono (by simp)))
    clear hb
    go_wp2
    go_ret2
    exact ⟨by have := HB.out; (repeat (first|exact bR _ _|assumption|apply bN|apply bA|apply bD)), fun _ _ _ e => absurd (List.getElem?_eq_some_iff.1 e).1 hj, fun _ => rfl⟩
def fromG (i : Nat) (back : Bool) : List G := if back then ruleR i else ruleL i
def toG (i : Nat) (back : Bool) : List G := if back then ruleL i else ruleR i
def phaseN (i : Nat) (back : Bool) : Int := if back then (8 - ruleP i) % 8 else ruleP i
theorem ruleP_range (i : Nat) (hi : i < 44) : 0 ≤ ruleP i ∧ ruleP i ≤ 7 := by
  by_cases h : i = 43
  · subst h; decide
  · rcases cases43 i (by omega) with rfl | rfl | rfl | rfl | rfl | rfl | rfl | rfl | rfl | rfl | rfl | rfl | rfl | rfl | rfl | rfl | rfl | rfl | rfl | rfl | rfl | rfl | rfl | rfl | rfl | rfl | rfl | rfl | rfl | rfl | rfl | rfl | rfl | rfl | rfl | rfl | rfl | rfl | rfl | rfl | rfl | rfl | rfl
    all_goals decide
set_option maxRecDepth 100000 in
set_option maxHeartbeats 4000000 in
theorem sides_any (i : Nat) (hi : i < 44) (back : Bool) (w : World) (HT : Hid (Laid w)) : Calls Tryz.prog 115 #[.int .i64 i, .bool back] w fun e w' =>
    ∃ v1 v2, e = .returned (.tuple #[v1, v2, .int .i64 (phaseN i back)]) ∧ Own 3 55 w.heap.size w' v1 (fromG i back) ∧ Own 3 55 w.heap.size w' v2 (toG i back) ∧ Below w.heap.size w w' := by
  obtain ⟨p, hp⟩ : ∃ p, ruleP i = p := ⟨_, rfl⟩
  have hr := ruleP_range i hi
  rw [hp] at hr
  obtain ⟨hp0, hp7⟩ := hr
  have HPH := Lib.hid hp
  clear hp
  cases back
  · go_enter Tryz.func115, Tryz.ntmps115
    go_wp2_with fail
    refine (ruled_any i hi _ HT).mono ?_
    rintro e w2 ⟨v1, v2, rfl, ⟨ps1, hps1, hd1, ho1⟩, ⟨ps2, hps2, hd2, ho2⟩, hb⟩
    obtain ⟨A1, c1, rfl, hc1⟩ := ho1.form
    obtain ⟨A2, c2, rfl, hc2⟩ := ho2.form
    have HO := Lib.hid (And.intro (show Own 3 55 w.heap.size w2 (.slice A1 ps1.length c1) (ruleL i) from ⟨ps1, hps1, hd1, ho1⟩) (show Own 3 55 w.heap.size w2 (.slice A2 ps2.length c2) (ruleR i) from ⟨ps2, hps2, hd2, ho2⟩))
    clear ho1 ho2 hps1 hps2 hd1 hd2
    rw [HPH.out]
    obtain ⟨fx, hfx⟩ : ∃ fx, fitsF i = .func (.func fx) #[] #[] := ⟨_, rfl⟩
    rw [hfx]
    clear hfx
    go_wp2_with fail
    go_quiet (fail)
    go_wp2
    go_ret3
    refine ⟨.slice A1 ps1.length c1, .slice A2 ps2.length c2, ?_, HO.out.1.below (by (repeat (first|exact bR _ _|assumption|apply bN|apply bA|apply bD))), HO.out.2.below (by (repeat (first|exact bR _ _|assumption|apply bN|apply bA|apply bD))), by (repeat (first|exact bR _ _|assumption|apply bN|apply bA|apply bD))⟩
    rw [show phaseN i false = p from HPH.out]
    rfl
  · go_enter Tryz.func115, Tryz.ntmps115
    go_wp2_with fail
    refine (ruled_any i hi _ HT).mono ?_
    rintro e w2 ⟨v1, v2, rfl, ⟨ps1, hps1, hd1, ho1⟩, ⟨ps2, hps2, hd2, ho2⟩, hb⟩
    obtain ⟨A1, c1, rfl, hc1⟩ := ho1.form
    obtain ⟨A2, c2, rfl, hc2⟩ := ho2.form
    have HO := Lib.hid (And.intro (show Own 3 55 w.heap.size w2 (.slice A1 ps1.length c1) (ruleL i) from ⟨ps1, hps1, hd1, ho1⟩) (show Own 3 55 w.heap.size w2 (.slice A2 ps2.length c2) (ruleR i) from ⟨ps2, hps2, hd2, ho2⟩))
    clear ho1 ho2 hps1 hps2 hd1 hd2
    rw [HPH.out]
    obtain ⟨fx, hfx⟩ : ∃ fx, fitsF i = .func (.func fx) #[] #[] := ⟨_, rfl⟩
    rw [hfx]
    clear hfx
    go_wp2_with fail
    go_quiet (fail)
    go_wp2
    go_ret3
    refine ⟨.slice A2 ps2.length c2, .slice A1 ps1.length c1, ?_, HO.out.2.below (by (repeat (first|exact bR _ _|assumption|apply bN|apply bA|apply bD))), HO.out.1.below (by (repeat (first|exact bR _ _|assumption|apply bN|apply bA|apply bD))), by (repeat (first|exact bR _ _|assumption|apply bN|apply bA|apply bD))⟩
    rw [show phaseN i true = (8 - p) % 8 from by rw [← HPH.out]; rfl]
    rfl
theorem rulesEvery1I_any (b : Nat) (gf : Nat) (lb : Array Value) (p : Int → Bool) (w0 : World) (gs : List Int) (hp : PredI w0 gf lb gs p) (eg : ∀ args w, (callFunc gf args).run Tryz.prog w = .ok (.enter gf args) w)
    (hcell : ∀ w1, Below w0.heap.size w0 w1 → w1.cell? ⟨b, 0, none⟩ = some (.func (.func gf) #[] lb)) :
    PredI w0 138 #[.pointer (some ⟨b, 0, none⟩)] gs (fun x => !p x) := by
  intro g w1 hg hB
  have hc := hcell w1 hB
  have hold := olds w1
  have hlt := cell_lt hc
  have HC := Lib.hid (hp g w1 hg hB)
  clear hp hcell
  go_enter Tryz.func138, Tryz.ntmps138
  go_wp2_with fail
  refine (HC.out).mono ?_
  rintro e w2 ⟨rfl, hb⟩
  go_wp2
  go_ret
  exact ⟨rfl, hb⟩
theorem rulesEveryI_any (A : Option Addr) (c : Nat) (gs : List Int) (gf : Nat) (lb : Array Value) (p : Int → Bool) (w : World) (h : RdI w A gs) (hp : PredI w gf lb gs p)
    (eg : ∀ args w, (callFunc gf args).run Tryz.prog w = .ok (.enter gf args) w) :
    Calls Tryz.prog 101 #[.slice A gs.length c, .func (.func gf) #[] lb] w fun e w' => e = .returned (.bool (gs.all p)) ∧ Below w.heap.size w w' := by
  have hmf : ∀ (fn : Fn) (first cap : Array Value) (w : World), (Instr.makeFunc fn first cap).run Tryz.prog w = .ok (.func fn first cap) w := fun _ _ _ _ => rfl
  have hB1 : ∀ o, Below w.heap.size w (w.alloc o) := fun o => below_alloc (Below.refl _ _) o
  have HP : ∀ o, PredI (w.alloc o) gf lb gs p := by
    intro o g w1 hg hB; exact hp g w1 hg ((hB1 o).trans (hB.mono (by simp)))
  have hq : ∀ w1, Below (w.alloc (.cells #[.func (.func gf) #[] lb] 72)).heap.size (w.alloc (.cells #[.func (.func gf) #[] lb] 72)) w1 → w1.cell? ⟨w.heap.size, 0, none⟩ = some (.func (.func gf) #[] lb) := by
    intro w1 hb
    rw [(bcell hb).1 _ _ (by simp)]
    simp
  have HC := ContainsFuncI_any A c gs 138 #[.pointer (some ⟨w.heap.size, 0, none⟩)] (fun x => !p x) _ (h.bI (hB1 _)) (rulesEvery1I_any w.heap.size gf lb p _ gs (HP _) eg hq) (enters_of Tryz.func138 (by kernel_rfl) rfl)
  replace HC := Lib.hid HC
  replace hB1 := Lib.hid hB1
  clear HP hq hp
  go_enter Tryz.func101, Tryz.ntmps101
  go_wp2_with fail
  refine HC.out.mono ?_
  rintro e w2 ⟨rfl, hb⟩
  go_wp2
  go_ret
  refine ⟨ret_bool ?_, (hB1.out _).trans (hb.mono (by simp))⟩
  rw [List.not_any_eq_all_not]
  simp
set_option maxRecDepth 100000 in
set_option maxHeartbeats 4000000 in
theorem two_no (A : Option Addr) (k : Nat) (c : C) (i j : Nat) (w : World) (h : RdG w A c.gates) (hc : check c = 0) (hi : c.gates.length ≤ i) :
    Calls Tryz.prog 163 #[.agg #[.int .i64 c.wires, .int .i64 c.bits, .slice A c.gates.length k], .int .i64 i, .int .i64 j] w fun e w' => e = .returned (.tuple #[.agg #[.int .i64 0, .slice none 0 0, .int .i64 0, .int .i64 0], .agg #[.int .i64 0, .slice none 0 0, .int .i64 0, .int .i64 0], .int .i64 1]) ∧ Below w.heap.size w w' := by
  have HR := Lib.hid h
  have hl := h.1
  clear h
  have h0 : (check c != 0) = false := by rw [hc]; rfl
  have hi0 : decide ((i : Int) < 0) = false := by simp
  have hj0 : decide ((j : Int) < 0) = false := by simp
  have hi1 : decide ((c.gates.length : Int) ≤ (i : Int)) = true := by simp; omega
  go_enter Tryz.func163, Tryz.ntmps163
  go_wp2_with fail
  refine (Check_any A k c _ (HR.out.bG (by (repeat (first|exact bR _ _|assumption|apply bN|apply bA|apply bD))))).mono ?_
  rintro e w2 ⟨rfl, hb⟩
  have e1 := (hb.block (w.heap.size + 1) (by simp)).trans ((Below.heap_alloc _ _ _ (by simp)).trans ((show w.heap.size + 1 = (w.alloc (.cells #[.int .i64 c.wires, .int .i64 c.bits, .slice A c.gates.length k] 24)).heap.size by simp) ▸ heap_alloc_new (w.alloc (.cells #[.int .i64 c.wires, .int .i64 c.bits, .slice A c.gates.length k] 24)) (.cells #[.int .i64 0, .slice none 0 0, .int .i64 0, .int .i64 0] 55)))
  have e2 := (hb.block (w.heap.size + 1 + 1) (by simp)).trans ((show w.heap.size + 1 + 1 = ((w.alloc (.cells #[.int .i64 c.wires, .int .i64 c.bits, .slice A c.gates.length k] 24)).alloc (.cells #[.int .i64 0, .slice none 0 0, .int .i64 0, .int .i64 0] 55)).heap.size by simp) ▸ heap_alloc_new ((w.alloc (.cells #[.int .i64 c.wires, .int .i64 c.bits, .slice A c.gates.length k] 24)).alloc (.cells #[.int .i64 0, .slice none 0 0, .int .i64 0, .int .i64 0] 55)) (.cells #[.int .i64 0, .slice none 0 0, .int .i64 0, .int .i64 0] 55))
  have e0 := (hb.block w.heap.size (by simp; omega)).trans ((Below.heap_alloc _ _ _ (by simp; omega)).trans ((Below.heap_alloc _ _ _ (by simp)).trans (heap_alloc_new _ _)))
  have HB := Lib.hid (show Below w.heap.size w w2 from Below.trans (b := _) (by (repeat (first|exact bR _ _|assumption|apply bN|apply bA|apply bD))) (hb.mono (by simp; omega)))
  clear hb
  have HE := Lib.hid (And.intro e1 e2)
  obtain ⟨_, _, _, hz0⟩ := cells3 e0
  obtain ⟨_, _, _, _, hz1⟩ := cells4 e1
  obtain ⟨_, _, _, _, hz2⟩ := cells4 e2
  clear e0 e1 e2
  go_wp2_with fail
  go_region
  go_wp2
  have hT := two8 (u0 := .int .i64 0) (u1 := .slice none 0 0) (u2 := .int .i64 0) (u3 := .int .i64 0) (v0 := .int .i64 0) (v1 := .slice none 0 0) (v2 := .int .i64 0) (v3 := .int .i64 0) HE.out.1 HE.out.2 HB.out (Nat.le_succ _)
  generalize hW : World.drew _ = W9 at hT ⊢
  exact bodyPost_ret (results_list (rs := [.cell 6 55, .cell 7 55, .tmp 8]) rfl (by simp) (.cell (w.heap.size + 1) 55 _ _ _ rfl hT.1 Tryz.underlying55 rfl (by kernel_rfl) (.cell (w.heap.size + 1 + 1) 55 _ _ _ rfl hT.2.1 Tryz.underlying55 rfl (by kernel_rfl) (.tmp .nil)))) rfl
    ⟨rfl, hT.2.2⟩
set_option maxRecDepth 100000 in
set_option maxHeartbeats 4000000 in
theorem Commute_no (A : Option Addr) (k : Nat) (c : C) (i : Nat) (w : World) (h : RdG w A c.gates) (hc : check c = 0) (hi : c.gates.length ≤ i) :
    Calls Tryz.prog 142 #[.agg #[.int .i64 c.wires, .int .i64 c.bits, .slice A c.gates.length k], .int .i64 i, .int .i64 (i + 1)] w fun e w' => e = .returned (.tuple #[.bool false, .int .i64 1]) ∧ Below w.heap.size w w' := by
  have HR := Lib.hid h
  go_enter Tryz.func142, Tryz.ntmps142
  go_wp2_with fail
  have htw := two_no A k c i (i + 1) (w.alloc (.cells #[.int .i64 c.wires, .int .i64 c.bits, .slice A c.gates.length k] 24)) (HR.out.bG (by (repeat (first|exact bR _ _|assumption|apply bN|apply bA|apply bD)))) hc hi
  refine Calls.mono htw ?_
  rintro e w2 ⟨rfl, hb⟩
  clear htw
  have HB := Lib.hid (show Below w.heap.size w w2 from Below.trans (b := _) (by (repeat (first|exact bR _ _|assumption|apply bN|apply bA|apply bD))) (hb.mono (by simp)))
  clear hb
  go_wp2
  go_ret2
  exact ⟨rfl, by have := HB.out; (repeat (first|exact bR _ _|assumption|apply bN|apply bA|apply bD))⟩
def exchOk (c : C) (k : Nat) : Bool := match c.gates[k]?, c.gates[k + 1]? with
  | some g, some h => commB g h
  | _, _ => false
theorem Commute_is (A : Option Addr) (k : Nat) (c : C) (i : Nat) (w : World) (h : RdG w A c.gates) (hc : check c = 0) (hp : c.gates.all plainG = true) :
    Calls Tryz.prog 142 #[.agg #[.int .i64 c.wires, .int .i64 c.bits, .slice A c.gates.length k], .int .i64 i, .int .i64 (i + 1)] w fun e w' => ∃ b : Bool, ∃ er : Int, e = .returned (.tuple #[.bool b, .int .i64 er]) ∧ (exchOk c i = true → b = true ∧ er = 0) ∧ (exchOk c i = false → b = false ∨ er ≠ 0) ∧ Below w.heap.size w w' := by
  rcases Nat.lt_or_ge i c.gates.length with hi | hi
  · refine (Commute_any A k c i w h hc hp hi).mono ?_
    rintro e w' ⟨hb, h1, h2⟩
    rcases Nat.lt_or_ge (i + 1) c.gates.length with hj | hj
    · refine ⟨_, _, h1 _ _ (List.getElem?_eq_getElem hi) (List.getElem?_eq_getElem hj), ?_, ?_, hb⟩
      · unfold exchOk; rw [List.getElem?_eq_getElem hi, List.getElem?_eq_getElem hj]; exact fun h => ⟨h, rfl⟩
      · unfold exchOk; rw [List.getElem?_eq_getElem hi, List.getElem?_eq_getElem hj]; exact fun h => .inl h
    · refine ⟨_, _, h2 hj, ?_, fun _ => .inl rfl, hb⟩
      unfold exchOk; rw [List.getElem?_eq_none hj]
      split <;> simp_all
  · refine (Commute_no A k c i w h hc hi).mono ?_
    rintro e w' ⟨rfl, hb⟩
    refine ⟨_, _, rfl, ?_, fun _ => .inl rfl, hb⟩
    unfold exchOk; rw [List.getElem?_eq_none hi]
    simp
def OwnH (ti tg lo hi : Nat) (w : World) (v : Value) (gs : List G) : Prop :=
  ∃ ps, ps.map Prod.fst = gs ∧ Dist ps ∧ App (EGv ti lo) tg 4 lo w v ps ∧ (∀ k, v.ownBlock = some k → k < hi) ∧ ∀ p ∈ ps, ∀ k, p.2.ownBlock = some k → k < hi
theorem Own.h {ti tg lo : Nat} {w : World} {v : Value} {gs : List G} (h : Own ti tg lo w v gs) : OwnH ti tg lo w.heap.size w v gs := by
  obtain ⟨ps, h1, h2, h3⟩ := h
  refine ⟨ps, h1, h2, h3, fun k hk => ?_, fun p hp k hk => ?_⟩
  · rcases h3.block with h | ⟨k', h, _, h'⟩
    · rw [h] at hk; cases hk
    · rw [h] at hk; cases hk; exact h'
  · obtain ⟨cs, he⟩ := h3.mem hp
    rcases he.2.block with h | ⟨k', h, _, h'⟩
    · rw [h] at hk; cases hk
    · rw [h] at hk; cases hk; exact h'
theorem OwnH.own {ti tg lo hi : Nat} {w : World} {v : Value} {gs : List G} (h : OwnH ti tg lo hi w v gs) : Own ti tg lo w v gs := by
  obtain ⟨ps, h1, h2, h3, _⟩ := h
  exact ⟨ps, h1, h2, h3⟩
theorem own_heap {w w1 : World} {B : Nat} {e : TypeId} {sz n : Nat} {v : Value} {xs : List Value} (h : w.ownsRow B e sz v n xs) (he : ∀ k, v.ownBlock = some k → w1.heap[k]? = w.heap[k]?) : w1.ownsRow B e sz v n xs := by
  obtain ⟨h1, h2⟩ := h
  refine ⟨h1, h2.imp id ?_⟩
  rintro ⟨g, cap, cur, rfl, hb, hh, r⟩
  exact ⟨g, cap, cur, rfl, hb, (he g rfl).trans hh, r⟩
theorem OwnH.kept {ti tg lo hi : Nat} {w w1 : World} {v : Value} {gs : List G} (h : OwnH ti tg lo hi w v gs) (he : ∀ k, lo ≤ k → k < hi → w1.heap[k]? = w.heap[k]?) : OwnH ti tg lo hi w1 v gs := by
  obtain ⟨ps, h1, h2, ⟨cs, ho, hr⟩, h4, h5⟩ := h
  refine ⟨ps, h1, h2, ⟨cs, own_heap ho fun k hk => he k (own_base ho k hk) (h4 k hk), hr.1, fun j p hj => ?_⟩, h4, h5⟩
  obtain ⟨e, ci, hoi, hri⟩ := hr.2 j p hj
  exact ⟨e, ci, own_heap hoi fun k hk => he k (own_base hoi k hk) (h5 p (List.mem_of_getElem? hj) k hk), hri⟩
theorem OwnH.below {ti tg lo hi : Nat} {w w1 : World} {v : Value} {gs : List G} (h : OwnH ti tg lo hi w v gs) (hb : Below hi w w1) : OwnH ti tg lo hi w1 v gs := h.kept fun k _ hk => hb.block k hk
theorem OwnH.mono {ti tg lo hi hi' : Nat} {w : World} {v : Value} {gs : List G} (h : OwnH ti tg lo hi w v gs) (hh : hi ≤ hi') : OwnH ti tg lo hi' w v gs := by
  obtain ⟨ps, h1, h2, h3, h4, h5⟩ := h
  exact ⟨ps, h1, h2, h3, fun k hk => Nat.lt_of_lt_of_le (h4 k hk) hh, fun p hp k hk => Nat.lt_of_lt_of_le (h5 p hp k hk) hh⟩
theorem Own.rd {ti tg B : Nat} {w : World} {v : Value} {gs : List G} (h : Own ti tg B w v gs) (hl : gs.length ≤ 35184372088832) (hg : ∀ g ∈ gs, g.wires.length ≤ 35184372088832) : ∃ A c, v = .slice A gs.length c ∧ gs.length ≤ c ∧ RdG w A gs := by
  obtain ⟨ps, rfl, _, cs, ho, hr⟩ := h
  refine App.rd (E := EG) (xs := ps.map Prod.fst) (T := tg) (sz := 4) (B := B) ⟨cs, by rw [List.length_map]; exact ho, by rw [List.length_map]; exact hr.1, fun j g hj => ?_⟩ hl
  rw [List.getElem?_map] at hj
  obtain ⟨p, hp, rfl⟩ := Option.map_eq_some_iff.1 hj
  exact (hr.2 j p hp).o.rd (hg _ (List.mem_map_of_mem (List.mem_of_getElem? hp)))
theorem OwnH.rd {ti tg lo hi : Nat} {w : World} {v : Value} {gs : List G} (h : OwnH ti tg lo hi w v gs) (hl : gs.length ≤ 35184372088832) (hg : ∀ g ∈ gs, g.wires.length ≤ 35184372088832) : ∃ A c, v = .slice A gs.length c ∧ gs.length ≤ c ∧ RdG w A gs := h.own.rd hl hg
theorem RdGs.one {W : World} {b : Nat} {A : Option Addr} {c : Nat} {l : List G} (h : W.cell? ⟨b, 0, none⟩ = some (.slice A l.length c)) (hc : l.length ≤ c) (hr : RdG W A l) : RdGs W (some ⟨b, 0, none⟩) [l] := by
  refine ⟨by simp, fun k l' hk => ?_⟩
  rcases k with _ | k
  · have e : l = l' := by simpa using hk
    subst e
    refine ⟨_, _, _, rfl, ⟨A, c, rfl, hc, hr⟩, rfl, fun i u hu => ?_⟩
    have hi : i = 0 := by have := (List.getElem?_eq_some_iff.1 hu).1; simpa using this
    subst hi
    have hu' : Value.slice A l.length c = u := by simpa using hu
    subst hu'
    simpa using h
  · simp at hk
def okSide (n : Int) (l : List G) : Bool := decide (l.length ≤ 20) && l.all fun g => decide (g.wires.length ≤ 3) && g.wires.all fun k => decide (0 ≤ k ∧ k < n)
theorem rule_ok (i : Nat) (hi : i < 44) : okSide (ruleW i) (ruleL i) = true ∧ okSide (ruleW i) (ruleR i) = true ∧ 0 ≤ ruleW i ∧ ruleW i ≤ 3 := by
  by_cases h : i = 43
  · subst h; decide
  · rcases cases43 i (by omega) with rfl | rfl | rfl | rfl | rfl | rfl | rfl | rfl | rfl | rfl | rfl | rfl | rfl | rfl | rfl | rfl | rfl | rfl | rfl | rfl | rfl | rfl | rfl | rfl | rfl | rfl | rfl | rfl | rfl | rfl | rfl | rfl | rfl | rfl | rfl | rfl | rfl | rfl | rfl | rfl | rfl | rfl | rfl
    all_goals decide
theorem Own.setCell {ti tg B : Nat} {W : World} {v : Value} {gs : List G} (h : Own ti tg B W v gs) {a : Addr} (ha : a.block < B) (u : Value) : Own ti tg B (W.setCell a u) v gs := by
  obtain ⟨ps, h1, h2, h3⟩ := h
  exact ⟨ps, h1, h2, h3.setBox ha ha u⟩
theorem Own.form' {ti tg B : Nat} {W : World} {v : Value} {gs : List G} (h : Own ti tg B W v gs) : ∃ A c, v = .slice A gs.length c ∧ gs.length ≤ c := by
  obtain ⟨ps, rfl, _, h3⟩ := h
  obtain ⟨A, c, e, hc⟩ := h3.form
  exact ⟨A, c, by rw [e, List.length_map], by rw [List.length_map]; exact hc⟩
theorem addr_add (b o n : Nat) : (⟨b, o, none⟩ : Addr).add n = ⟨b, o + n, none⟩ := by unfold Addr.add; split <;> simp_all
theorem Rd.sub {α : Type} {E : World → α → List Value → Prop} {sz : Nat} {w : World} {A : Option Addr} {xs : List α} (h : Rd E sz w A xs) {c i : Nat} (hc : xs.length ≤ c) : Rd E sz w (if c = i then A else Option.map (fun x => x.add (i * sz)) A) (xs.drop i) := by
  rcases Nat.lt_or_ge i xs.length with hi | hi
  · obtain ⟨b, o, cs, rfl, _⟩ := h.2 0 _ (List.getElem?_eq_getElem (show 0 < xs.length by omega))
    rw [if_neg (by omega)]
    simp only [Option.map_some, addr_add]
    exact h.drop i
  · rw [List.drop_eq_nil_of_le hi]; exact Rd.nil _ _ _ _
theorem blk2 {W w2 : World} {b : Nat} {o : Obj} (hb : Below W.heap.size W w2) (h : W.heap[b]? = some o) : w2.heap[b]? = some o :=
  (hb.block b (Array.getElem?_eq_some_iff.1 h).1).trans h
theorem alloc_old {W : World} {b : Nat} {o o' : Obj} (h : W.heap[b]? = some o) : (W.alloc o').heap[b]? = some o := (Below.heap_alloc W o' b (Array.getElem?_eq_some_iff.1 h).1).trans h
theorem blk_alloc (w : World) (o : Obj) (b : Nat) (hb : b = w.heap.size) : (w.alloc o).heap[b]? = some o := by subst hb; exact heap_alloc_new _ _
theorem blk_lt {W : World} {b : Nat} {o : Obj} (h : W.heap[b]? = some o) : b < W.heap.size := (Array.getElem?_eq_some_iff.1 h).1
theorem RdI.lit (w : World) (T : TypeId) (xs : List Int) (hl : xs.length ≤ 35184372088832) (b : Nat) (hb : b = w.heap.size) : RdI (w.alloc (.cells (xs.map (Value.int .i64)).toArray T)) (some ⟨b, 0, none⟩) xs := by
  subst hb
  refine ⟨hl, fun k x hx => ⟨_, _, _, rfl, rfl, rfl, fun i u hu => ?_⟩⟩
  have hi : i = 0 := by have := (List.getElem?_eq_some_iff.1 hu).1; simpa using this
  subst hi
  have hu' : Value.int .i64 x = u := by simpa using hu
  subst hu'
  rw [World.cell?_alloc_new]
  simp [hx]
end Go.Proofs.YtfommmijojfdbaaGreatDoor
