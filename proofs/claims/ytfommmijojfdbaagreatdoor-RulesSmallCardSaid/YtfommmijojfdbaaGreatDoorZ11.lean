/- Part 12 of the proof that 'spoondriftlaw19.RulesApplies' holds for every input; it has no condition beyond the statement's own. -/
import Derived.Test.YtfommmijojfdbaaGreatDoorZ00
import Derived.Test.YtfommmijojfdbaaGreatDoorZ09
import Derived.Test.YtfommmijojfdbaaGreatDoorRows
import Derived.ProofKit
import Derived.LaidMore
import Derived.OpenShut
import Derived.Stop.Joined
import Derived.Deep.Slices
import Derived.Deep.Fields
import Derived.ChangeSame
import Derived.Lib.SmallJoins
import Derived.Lib.LaidTab
import Derived.SizedLaws
import Derived.Carry
set_option linter.all false
namespace Go.Proofs.YtfommmijojfdbaaGreatDoor
open Go.ChangeShapes Go.WideShapes Go.ChangeAt Go.RowKit Go.Joins Go.Deep
section
variable {H : Type} {enc : TypeId × Value → H} {W : World} {sp : Nat → Bool} {held : Bool}
theorem spot_none {a : Addr} {v : Value} (h : W.cell? a = some v) : a.spot = none := by
  unfold World.cell? at h
  split at h
  · split at h
    · cases h
    · rename_i hs; simpa using hs
  · cases h
theorem add_none (b o k : Nat) : Addr.add ⟨b, o, none⟩ k = ⟨b, o + k, none⟩ := by
  unfold Addr.add
  split
  · rename_i h; subst h; rfl
  · rfl
theorem weightsAll_mem {P : Program} {e : TypeId} {d : DataW H} {n : Nat} : ∀ {l : List (DataW H)}, d ∈ l → n ∈ d.weights P e → n ∈ DataW.weightsAll P e l
  | [], h, _ => by cases h
  | x :: r, h, hn => by
    simp only [DataW.weightsAll, List.mem_append]
    rcases List.mem_cons.1 h with rfl | h
    · exact .inl hn
    · exact .inr (weightsAll_mem h hn)
theorem cells1 : Tryz.prog.cellsOf 3 = 1 := by kernel_rfl
theorem cells25 : Tryz.prog.cellsOf 25 = 1 := by kernel_rfl
theorem cellsG : Tryz.prog.cellsOf 55 = 4 := by kernel_rfl
theorem bytesI : Tryz.prog.bytesOf 3 = 8 := by kernel_rfl
theorem bytesG : Tryz.prog.bytesOf 55 = 48 := by kernel_rfl
theorem open_wires {fuel : Nat} {v : Value} {y : DataW H × List MemPlace} (h : DataW.trod enc Tryz.prog W 0 sp held fuel 25 [v] = some y) (hw : ∀ n ∈ y.1.weights Tryz.prog 25, n ≤ reachBytes) :
    ∃ A xs c, v = .slice A (List.length xs) c ∧ xs.length ≤ c ∧ RdI W A xs := by
  rcases open_ints Tryz.underlying25 Tryz.underlying3 cells1 h with ⟨hcs, hx⟩ | ⟨a, len, cap, zs, hcs, _, hl, _, hz, hx, hcell, _⟩
  · cases hcs
    exact ⟨none, [], 0, rfl, Nat.le_refl _, Rd.nil _ _ _ _⟩
  · cases hcs
    have hzl : len ≤ zs.length := by rw [hz]; split <;> omega
    have hb : zs.length * 8 ≤ reachBytes := by
      refine hw _ ?_
      rw [hx]
      simp only [DataW.weights, Tryz.underlying25, bytesI, lits, List.length_map, List.length_take, List.length_drop]
      refine List.mem_cons.2 (.inl ?_)
      rw [Nat.min_eq_left hzl]
      congr 1
      omega
    have hlt : (zs.take len).length = len := by rw [List.length_take]; omega
    refine ⟨some a, zs.take len, cap, by rw [hlt], by rw [hlt]; exact hl, ?_, fun k x hk => ?_⟩
    · rw [hlt]
      unfold reachBytes at hb
      omega
    · obtain ⟨hk1, hk2⟩ := List.getElem?_eq_some_iff.1 hk
      have hk3 : k < len := by omega
      have hs := spot_none (hcell 0 (by omega))
      rw [show a.add 0 = a from rfl] at hs
      obtain ⟨b, o, s⟩ := a
      subst hs
      refine ⟨b, o, [.int .i64 x], rfl, rfl, rfl, fun i u hu => ?_⟩
      have hc := hcell k (by omega)
      rw [add_none] at hc
      have hx2 : zs.getD k 0 = x := by
        rw [List.getElem_take] at hk2
        rw [← hk2]
        simp [List.getD, List.getElem?_eq_getElem (show k < zs.length by omega)]
      rw [hx2] at hc
      rcases i with _ | i
      · simp only [List.getElem?_cons_zero, Option.some.injEq] at hu
        subst hu
        simpa using hc
      · simp at hu
set_option maxRecDepth 100000 in
theorem open_gates {fuel : Nat} {v : Value} {y : DataW H × List MemPlace} (h : DataW.trod enc Tryz.prog W 0 sp held fuel 22 [v] = some y) (hw : ∀ n ∈ y.1.weights Tryz.prog 22, n ≤ reachBytes) :
    ∃ A gs c, v = .slice A (List.length gs) c ∧ gs.length ≤ c ∧ RdG W A gs := by
  rcases open_slice Tryz.underlying22 h with ⟨hcs, hx⟩ | ⟨a, len, cap, m, n, D, Pl, hcs, _, hl, _, hm, hx, hi⟩
  · cases hcs
    exact ⟨none, [], 0, rfl, Nat.le_refl _, Rd.nil _ _ _ _⟩
  · cases hcs
    have hlm : len ≤ m := by rw [hm]; split <;> omega
    have hwt : ∀ q, q ∈ (len + (m - len)) * 48 :: (DataW.weightsAll Tryz.prog 55 ((List.range len).map D) ++ DataW.weightsAll Tryz.prog 55 ((List.range (m - len)).map fun j => D (len + j))) → q ≤ reachBytes := fun q hq => by
      refine hw q ?_
      rw [hx]
      simp only [DataW.weights, Tryz.underlying22, bytesG, List.length_map, List.length_range]
      exact hq
    have hb : (len + (m - len)) * 48 ≤ reachBytes := hwt _ (List.mem_cons_self ..)
    have hs : 0 < len → a.spot = none := fun h0 => by
      obtain ⟨cs', hc, _⟩ := hi 0 (by omega)
      rw [cellsG] at hc
      obtain ⟨_, hcl, hat⟩ := World.cells?_some hc
      have := hat 0 (by omega)
      rw [List.getElem?_eq_getElem (by omega)] at this
      exact spot_none this
    have each : ∀ i, i < len → ∃ g : G, ∃ cs, EG W g cs ∧ cs.length = 4 ∧ ∃ b o, a = ⟨b, o, none⟩ ∧ ∀ j u, cs[j]? = some u → W.cell? ⟨b, o + i * 4 + j, none⟩ = some u := fun i hil => by
      obtain ⟨cs', hc, ht⟩ := hi i (by omega)
      rw [cellsG] at hc
      obtain ⟨_, hcl, hat⟩ := World.cells?_some hc
      match cs', hcl with
      | [c0, c1, c2, c3], _ =>
        obtain ⟨y0, y1, y2, y3, n', hyx, _, h0, h1, h2, h3⟩ := trod_struct4 Tryz.underlying55 ht
        have h0' : DataW.trod enc Tryz.prog W 0 sp held n' 3 [c0] = some y0 := by simpa [cells1] using h0
        have h1' : DataW.trod enc Tryz.prog W 0 sp held n' 25 [c1] = some y1 := by simpa [cells25] using h1
        have h2' : DataW.trod enc Tryz.prog W 0 sp held n' 3 [c2] = some y2 := by simpa [cells1] using h2
        have h3' : DataW.trod enc Tryz.prog W 0 sp held n' 3 [c3] = some y3 := by simpa [cells1] using h3
        obtain ⟨z0, e0, _, _⟩ := DataW.trod_int Tryz.underlying3 h0'
        obtain ⟨z2, e2, _, _⟩ := DataW.trod_int Tryz.underlying3 h2'
        obtain ⟨z3, e3, _, _⟩ := DataW.trod_int Tryz.underlying3 h3'
        cases e0; cases e2; cases e3
        simp only [Prod.mk.injEq] at hyx
        obtain ⟨A, xs, c, rfl, hc2, hr⟩ := open_wires h1' (fun q hq => hwt q (List.mem_cons_of_mem _ (List.mem_append_left _ (weightsAll_mem (d := D i) (List.mem_map.2 ⟨i, List.mem_range.2 hil, rfl⟩) (by
          rw [hyx.1]
          simp only [DataW.weights, Tryz.underlying55]
          exact DataW.weights_mem_each (j := 1) (t := 25) (d := y1.1) rfl rfl q hq)))))
        have hs0 := hs (by omega)
        refine ⟨⟨z0, xs, z2, z3⟩, [.int .i64 z0, .slice A xs.length c, .int .i64 z2, .int .i64 z3], ⟨A, c, rfl, hc2, hr⟩, rfl, a.block, a.off, ?_, fun j u hu => ?_⟩
        · obtain ⟨b, o, s⟩ := a
          simp only at hs0
          subst hs0
          rfl
        · obtain ⟨b, o, s⟩ := a
          simp only at hs0
          subst hs0
          have hj : j < 4 := by have := (List.getElem?_eq_some_iff.1 hu).1; simpa using this
          have := hat j hj
          rw [add_none, add_none] at this
          exact this.trans hu
    obtain ⟨f, hf⟩ := Classical.skolem.1 (fun i => show ∃ g : G, i < len → ∃ cs, EG W g cs ∧ cs.length = 4 ∧ ∃ b o, a = ⟨b, o, none⟩ ∧ ∀ j u, cs[j]? = some u → W.cell? ⟨b, o + i * 4 + j, none⟩ = some u from by
      by_cases h : i < len
      · obtain ⟨g, hg⟩ := each i h
        exact ⟨g, fun _ => hg⟩
      · exact ⟨⟨0, [], 0, 0⟩, fun h' => absurd h' h⟩)
    have hlen : ((List.range len).map f).length = len := by simp
    refine ⟨some a, (List.range len).map f, cap, by rw [hlen], by rw [hlen]; exact hl, ?_, fun k x hk => ?_⟩
    · rw [hlen]
      unfold reachBytes at hb
      omega
    · obtain ⟨hk1, hk2⟩ := List.getElem?_eq_some_iff.1 hk
      rw [hlen] at hk1
      have hfx : f k = x := by simpa using hk2
      obtain ⟨cs, h1, h2, b, o, e, h3⟩ := hf k hk1
      rw [hfx] at h1
      exact ⟨b, o, cs, by rw [e], h1, h2, h3⟩
set_option maxRecDepth 100000 in
theorem open_circuit {r : Reach} {b0 : Nat} {v : Value} {d : DataW H} {p : List MemPlace} (hv : Value.okWide Tryz.prog W r b0 24 v) (h : DataW.Trod enc Tryz.prog W 0 sp held 24 v d p) (hw : ∀ n ∈ d.weights Tryz.prog 24, n ≤ reachBytes) :
    ∃ (c : C) (A : Option Addr) (k : Nat), v = .agg #[.int .i64 c.wires, .int .i64 c.bits, .slice A c.gates.length k] ∧ c.gates.length ≤ k ∧ RdG W A c.gates := by
  obtain ⟨v0, v1, v2, y0, y1, y2, n, rfl, rfl, rfl, h0, h1, h2⟩ := open_agg3 Tryz.underlying24 (by kernel_rfl) (by kernel_rfl) hv h
  obtain ⟨z0, e0, _, _⟩ := DataW.trod_int Tryz.underlying3 h0
  obtain ⟨z1, e1, _, _⟩ := DataW.trod_int Tryz.underlying3 h1
  cases e0; cases e1
  obtain ⟨A, gs, k, rfl, hk, hr⟩ := open_gates h2 (fun q hq => hw q (by
    simp only [DataW.weights, Tryz.underlying24]
    exact DataW.weights_mem_each (j := 2) (t := 22) (d := y2.1) rfl rfl q hq))
  exact ⟨⟨z0, z1, gs⟩, A, k, rfl, hk, hr⟩
set_option maxRecDepth 100000 in
theorem open_move {r : Reach} {b0 : Nat} {v : Value} {d : DataW H} {p : List MemPlace} (hv : Value.okWide Tryz.prog W r b0 27 v) (h : DataW.Trod enc Tryz.prog W 0 sp held 27 v d p) (hw : ∀ n ∈ d.weights Tryz.prog 27, n ≤ reachBytes) :
    ∃ (s : M) (A : Option Addr) (k : Nat), v = .agg #[.int .i64 s.rule, .int .i64 s.at_, .bool s.back, .slice A s.wires.length k] ∧ s.wires.length ≤ k ∧ RdI W A s.wires := by
  obtain ⟨v0, v1, v2, v3, y0, y1, y2, y3, n, rfl, rfl, rfl, h0, h1, h2, h3⟩ := open_agg4 Tryz.underlying27 (by kernel_rfl) (by kernel_rfl) hv h
  obtain ⟨z0, e0, _, _⟩ := DataW.trod_int Tryz.underlying3 h0
  obtain ⟨z1, e1, _, _⟩ := DataW.trod_int Tryz.underlying3 h1
  obtain ⟨z2, e2, _⟩ := DataW.trod_bool Tryz.underlying4 h2
  cases e0; cases e1; cases e2
  obtain ⟨A, xs, k, rfl, hk, hr⟩ := open_wires h3 (fun q hq => hw q (by
    simp only [DataW.weights, Tryz.underlying27]
    exact DataW.weights_mem_each (j := 3) (t := 25) (d := y3.1) rfl rfl q hq))
  exact ⟨⟨z0, z1, z2, xs⟩, A, k, rfl, hk, hr⟩
end
def laid3 : List (String × DataW Unit) := [("unicode.White_Space", Rows.laid_unicode_White_Space), ("strings.asciiSpace", Rows.laid_strings_asciiSpace), ("spoondrift/rules.unbound", Rows.laid_spoondrift_rules_unbound)]
theorem eqA : (Rows.laid_strings_asciiSpace : DataW Unit) = Lib.tabData .u8 Lib.asciiSpaceTab := by kernel_rfl
theorem eqU : (Rows.laid_spoondrift_rules_unbound : DataW Unit) = Lib.tabData .i64 [-1, -1, -1] := by kernel_rfl
theorem gA : Tryz.prog.globalNamed "strings.asciiSpace" = some (Tryz.prog.globalNamed "strings.asciiSpace").get! := by kernel_rfl
theorem gU : Tryz.prog.globalNamed "spoondrift/rules.unbound" = some (Tryz.prog.globalNamed "spoondrift/rules.unbound").get! := by kernel_rfl
theorem tyA : (Tryz.prog.globals[(Tryz.prog.globalNamed "strings.asciiSpace").get!]?).map (·.type) = some 184 := by kernel_rfl
theorem tyU : (Tryz.prog.globals[(Tryz.prog.globalNamed "spoondrift/rules.unbound").get!]?).map (·.type) = some 157 := by kernel_rfl
theorem ceA : Tryz.prog.cellsOf 5 = 1 := by kernel_rfl
theorem ctA : Tryz.prog.cellsOf 184 = 256 := by kernel_rfl
theorem ctU : Tryz.prog.cellsOf 157 = 3 := by kernel_rfl
set_option maxRecDepth 100000 in
theorem laid_of {W : World} (h : laidMetH Tryz.prog laid3 W) : Laid W := by
  rw [MakeChecks.laidMetH_plain _ _ _ (by kernel_rfl)] at h
  obtain ⟨ps, ⟨g0, t0, cs0, f0, p0, q0, hg0, ht0, hv0, hd0, ⟨g1, t1, cs1, f1, p1, q1, hg1, ht1, hv1, hd1, ⟨g2, t2, cs2, f2, p2, q2, hg2, ht2, hv2, hd2, _, _⟩, _⟩, _⟩, _, _⟩ := h
  rw [eqA] at hd1
  rw [eqU] at hd2
  refine ⟨?_, ?_⟩
  · obtain rfl := Option.some.inj (gA.symm.trans hg1)
    obtain rfl := Option.some.inj (tyA.symm.trans ht1)
    unfold Lib.TabIs
    rw [hv1, ← Lib.cells_of_tab Tryz.underlying184 Tryz.underlying5 ceA ctA hd1]
  · obtain rfl := Option.some.inj (gU.symm.trans hg2)
    obtain rfl := Option.some.inj (tyU.symm.trans ht2)
    unfold Lib.TabIs
    rw [hv2, ← Lib.cells_of_tab Tryz.underlying157 Tryz.underlying3 cells1 ctU hd2]
theorem door_met (os : Os) (args : Array Value) : laidMetH Tryz.prog laid3 ((World.doorLaid Tryz.prog 43 os).forCall (fun _ _ => 0) ⟨#[], args, []⟩).memory :=
  laidMetH_of_parts3 (fuel := 8) (laidMet_of_run' 8 (by kernel_rfl) (by kernel_rfl)) (by kernel_rfl) (by kernel_rfl)
theorem ownKnobs : ownKnob Tryz.prog.godebug = none := by kernel_rfl
theorem laidOut : laidOutB Tryz.prog = true := by kernel_rfl
end Go.Proofs.YtfommmijojfdbaaGreatDoor
