/- What the form of an argument that is a row of steps gives the walks. -/
import Derived.Test.YtfommmijojfdbaaGreatDoorZ11
set_option linter.all false
namespace Go.Proofs.YtfommmijojfdbaaGreatDoor
open Go.ChangeShapes Go.WideShapes Go.ChangeAt Go.RowKit Go.Joins Go.Deep

section
variable {H : Type} {enc : TypeId × Value → H} {W : World} {sp : Nat → Bool} {held : Bool}
theorem cellsB : Tryz.prog.cellsOf 4 = 1 := by kernel_rfl
theorem cellsM : Tryz.prog.cellsOf 27 = 4 := by kernel_rfl
theorem bytesM : Tryz.prog.bytesOf 27 = 48 := by kernel_rfl
set_option maxRecDepth 100000 in
theorem open_movesT {fuel : Nat} {v : Value} {y : DataW H × List MemPlace} (h : DataW.trod enc Tryz.prog W 0 sp held fuel 30 [v] = some y) (hw : ∀ n ∈ y.1.weights Tryz.prog 30, n ≤ reachBytes) :
    ∃ A gs c, v = .slice A (List.length gs) c ∧ gs.length ≤ c ∧ RdM W A gs := by
  rcases open_slice Tryz.underlying30 h with ⟨hcs, hx⟩ | ⟨a, len, cap, m, n, D, Pl, hcs, _, hl, _, hm, hx, hi⟩
  · cases hcs
    exact ⟨none, [], 0, rfl, Nat.le_refl _, Rd.nil _ _ _ _⟩
  · cases hcs
    have hlm : len ≤ m := by rw [hm]; split <;> omega
    have hwt : ∀ q, q ∈ (len + (m - len)) * 48 :: (DataW.weightsAll Tryz.prog 27 ((List.range len).map D) ++ DataW.weightsAll Tryz.prog 27 ((List.range (m - len)).map fun j => D (len + j))) → q ≤ reachBytes := fun q hq => by
      refine hw q ?_
      rw [hx]
      simp only [DataW.weights, Tryz.underlying30, bytesM, List.length_map, List.length_range]
      exact hq
    have hb : (len + (m - len)) * 48 ≤ reachBytes := hwt _ (List.mem_cons_self ..)
    have hs : 0 < len → a.spot = none := fun h0 => by
      obtain ⟨cs', hc, _⟩ := hi 0 (by omega)
      rw [cellsM] at hc
      obtain ⟨_, hcl, hat⟩ := World.cells?_some hc
      have := hat 0 (by omega)
      rw [List.getElem?_eq_getElem (by omega)] at this
      exact spot_none this
    have each : ∀ i, i < len → ∃ g : M, ∃ cs, EM W g cs ∧ cs.length = 4 ∧ ∃ b o, a = ⟨b, o, none⟩ ∧ ∀ j u, cs[j]? = some u → W.cell? ⟨b, o + i * 4 + j, none⟩ = some u := fun i hil => by
      obtain ⟨cs', hc, ht⟩ := hi i (by omega)
      rw [cellsM] at hc
      obtain ⟨_, hcl, hat⟩ := World.cells?_some hc
      match cs', hcl with
      | [c0, c1, c2, c3], _ =>
        obtain ⟨y0, y1, y2, y3, n', hyx, _, h0, h1, h2, h3⟩ := trod_struct4 Tryz.underlying27 ht
        have h0' : DataW.trod enc Tryz.prog W 0 sp held n' 3 [c0] = some y0 := by simpa [cells1] using h0
        have h1' : DataW.trod enc Tryz.prog W 0 sp held n' 3 [c1] = some y1 := by simpa [cells1] using h1
        have h2' : DataW.trod enc Tryz.prog W 0 sp held n' 4 [c2] = some y2 := by simpa [cellsB] using h2
        have h3' : DataW.trod enc Tryz.prog W 0 sp held n' 25 [c3] = some y3 := by simpa [cells25] using h3
        obtain ⟨z0, e0, _, _⟩ := DataW.trod_int Tryz.underlying3 h0'
        obtain ⟨z1, e1, _, _⟩ := DataW.trod_int Tryz.underlying3 h1'
        obtain ⟨z2, e2, _⟩ := DataW.trod_bool Tryz.underlying4 h2'
        cases e0; cases e1; cases e2
        simp only [Prod.mk.injEq] at hyx
        obtain ⟨A, xs, c, rfl, hc2, hr⟩ := open_wires h3' (fun q hq => hwt q (List.mem_cons_of_mem _ (List.mem_append_left _ (weightsAll_mem (d := D i) (List.mem_map.2 ⟨i, List.mem_range.2 hil, rfl⟩) (by
          rw [hyx.1]
          simp only [DataW.weights, Tryz.underlying27]
          exact DataW.weights_mem_each (j := 3) (t := 25) (d := y3.1) rfl rfl q hq)))))
        have hs0 := hs (by omega)
        refine ⟨⟨z0, z1, z2, xs⟩, [.int .i64 z0, .int .i64 z1, .bool z2, .slice A xs.length c], ⟨A, c, rfl, hc2, hr⟩, rfl, a.block, a.off, ?_, fun j u hu => ?_⟩
        · obtain ⟨b, o, s⟩ := a
          simp only at hs0
          subst hs0
          rfl
        · obtain ⟨b, o, s⟩ := a
          simp only at hs0
          subst hs0
          have hj : j < 4 := by have := (List.getElem?_eq_some_iff.1 hu).1; simpa using this
          have := hat j hj
          rw [add_none, add_none] at this
          exact this.trans hu
    obtain ⟨f, hf⟩ := Classical.skolem.1 (fun i => show ∃ g : M, i < len → ∃ cs, EM W g cs ∧ cs.length = 4 ∧ ∃ b o, a = ⟨b, o, none⟩ ∧ ∀ j u, cs[j]? = some u → W.cell? ⟨b, o + i * 4 + j, none⟩ = some u from by
      by_cases h : i < len
      · obtain ⟨g, hg⟩ := each i h
        exact ⟨g, fun _ => hg⟩
      · exact ⟨⟨0, 0, false, []⟩, fun h' => absurd h' h⟩)
    have hlen : ((List.range len).map f).length = len := by simp
    refine ⟨some a, (List.range len).map f, cap, by rw [hlen], by rw [hlen]; exact hl, ?_, fun k x hk => ?_⟩
    · rw [hlen]
      unfold reachBytes at hb
      omega
    · obtain ⟨hk1, hk2⟩ := List.getElem?_eq_some_iff.1 hk
      rw [hlen] at hk1
      have hfx : f k = x := by simpa using hk2
      obtain ⟨cs, h1, h2, b, o, e, h3⟩ := hf k hk1
      rw [hfx] at h1
      exact ⟨b, o, cs, by rw [e], h1, h2, h3⟩
set_option maxRecDepth 100000 in
theorem open_moves {v : Value} {d : DataW H} {p : List MemPlace} {r : Reach} {b0 : Nat} (hv : Value.okWide Tryz.prog W r b0 30 v) (h : DataW.Trod enc Tryz.prog W 0 sp held 30 v d p) (hw : ∀ n ∈ d.weights Tryz.prog 30, n ≤ reachBytes) :
    ∃ (l : List M) (A : Option Addr) (k : Nat), v = .slice A l.length k ∧ l.length ≤ k ∧ RdM W A l := by
  obtain ⟨a, len, cap, rfl⟩ := okWide_slice Tryz.underlying30 hv
  obtain ⟨fuel, h⟩ := h
  obtain ⟨A, l, k, e, hk, hr⟩ := open_movesT (v := .slice a len cap) h hw
  exact ⟨l, A, k, e, hk, hr⟩
end
end Go.Proofs.YtfommmijojfdbaaGreatDoor
