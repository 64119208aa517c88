/- Part 8 of the proof that 'spoondriftlaw19.RulesApplies' holds for every input; it has no condition beyond the statement's own. -/
import Derived.Test.YtfommmijojfdbaaGreatDoorZ06
import Derived.Shelf.Abstract
import Derived.OneCell
import Derived.RegionTactic
import Derived.Deep.RegionHeld3
set_option linter.all false
namespace Go.Proofs.YtfommmijojfdbaaGreatDoor
open Go.RowKit
theorem C.eq_iff (c d : C) : decide (c = d) = (c.wires == d.wires && (c.bits == d.bits && decide (c.gates = d.gates))) := by
  cases c; cases d
  rw [Bool.eq_iff_iff]
  simp
set_option maxHeartbeats 4000000 in
theorem kSame_any (A B : Option Addr) (k k' : Nat) (c d : C) (w : World) (h : RdG w A c.gates) (h' : RdG w B d.gates) :
    Calls Tryz.prog 21 #[.agg #[.int .i64 c.wires, .int .i64 c.bits, .slice A c.gates.length k], .agg #[.int .i64 d.wires, .int .i64 d.bits, .slice B d.gates.length k']] w fun e w' => e = .returned (.bool (decide (c = d))) ∧ Below w.heap.size w w' := by
  obtain ⟨q1, h1⟩ : ∃ q, (c.wires == d.wires) = q := ⟨_, rfl⟩
  obtain ⟨q2, h2⟩ : ∃ q, (c.bits == d.bits) = q := ⟨_, rfl⟩
  have HR := Lib.hid (And.intro h h')
  have HE := Lib.hid (C.eq_iff c d)
  clear h h'
  cases q1
  · go_enter Tryz.func21, Tryz.ntmps21
    go_wp2
    go_ret
    exact ⟨ret_bool (by rw [HE.out, h1]; rfl), by (repeat (first|exact bR _ _|assumption|apply bN|apply bA|apply bD))⟩
  · cases q2
    · go_enter Tryz.func21, Tryz.ntmps21
      go_wp2
      go_ret
      exact ⟨ret_bool (by rw [HE.out, h1, h2]; rfl), by (repeat (first|exact bR _ _|assumption|apply bN|apply bA|apply bD))⟩
    · go_enter Tryz.func21, Tryz.ntmps21
      go_wp2_with fail
      refine (EqualFunc_any A B k k' c.gates d.gates 65 #[] _ (HR.out.1.bG (by (repeat (first|exact bR _ _|assumption|apply bN|apply bA|apply bD)))) (HR.out.2.bG (by (repeat (first|exact bR _ _|assumption|apply bN|apply bA|apply bD)))) (kSameGate_any _ _ _) (enters_of Tryz.func65 (by kernel_rfl) rfl)).mono ?_
      rintro e w2 ⟨rfl, hb⟩
      have HB := Lib.hid (show Below w.heap.size w w2 from Below.trans (b := _) (by (repeat (first|exact bR _ _|assumption|apply bN|apply bA|apply bD))) (hb.mono (by simp; omega)))
      clear hb
      go_wp2
      go_ret
      exact ⟨ret_bool (by rw [HE.out, h1, h2]; rfl), HB.out⟩
set_option maxHeartbeats 4000000 in
theorem alike_any (A B : Option Addr) (k k' : Nat) (c d : C) (w : World) (h : RdG w A c.gates) (h' : RdG w B d.gates) :
    Calls Tryz.prog 73 #[.agg #[.int .i64 c.wires, .int .i64 c.bits, .slice A c.gates.length k], .agg #[.int .i64 d.wires, .int .i64 d.bits, .slice B d.gates.length k']] w fun e w' => e = .returned (.bool (decide (c = d))) ∧ Below w.heap.size w w' := by
  obtain ⟨q1, h1⟩ : ∃ q, (c.wires == d.wires) = q := ⟨_, rfl⟩
  obtain ⟨q2, h2⟩ : ∃ q, (c.bits == d.bits) = q := ⟨_, rfl⟩
  have HR := Lib.hid (And.intro h h')
  have HE := Lib.hid (C.eq_iff c d)
  clear h h'
  cases q1
  · go_enter Tryz.func73, Tryz.ntmps73
    go_wp2
    go_ret
    exact ⟨ret_bool (by rw [HE.out, h1]; rfl), by (repeat (first|exact bR _ _|assumption|apply bN|apply bA|apply bD))⟩
  · cases q2
    · go_enter Tryz.func73, Tryz.ntmps73
      go_wp2
      go_ret
      exact ⟨ret_bool (by rw [HE.out, h1, h2]; rfl), by (repeat (first|exact bR _ _|assumption|apply bN|apply bA|apply bD))⟩
    · go_enter Tryz.func73, Tryz.ntmps73
      go_wp2_with fail
      refine (EqualFunc_any A B k k' c.gates d.gates 121 #[] _ (HR.out.1.bG (by (repeat (first|exact bR _ _|assumption|apply bN|apply bA|apply bD)))) (HR.out.2.bG (by (repeat (first|exact bR _ _|assumption|apply bN|apply bA|apply bD)))) (rsame_any _ _ _) (enters_of Tryz.func121 (by kernel_rfl) rfl)).mono ?_
      rintro e w2 ⟨rfl, hb⟩
      have HB := Lib.hid (show Below w.heap.size w w2 from Below.trans (b := _) (by (repeat (first|exact bR _ _|assumption|apply bN|apply bA|apply bD))) (hb.mono (by simp; omega)))
      clear hb
      go_wp2
      go_ret
      exact ⟨ret_bool (by rw [HE.out, h1, h2]; rfl), HB.out⟩
theorem RdGs.lit {w : World} {T : TypeId} {ls : List (List G)} {cs : List Value} (hl : ls.length ≤ 35184372088832) (h : ∀ (k : Nat) (l : List G), ls[k]? = some l → ∃ A c, cs[k]? = some (Value.slice A l.length c) ∧ l.length ≤ c ∧ RdG w A l) :
    RdGs (w.alloc (.cells cs.toArray T)) (some ⟨w.heap.size, 0, none⟩) ls := by
  refine ⟨hl, fun k l hk => ?_⟩
  obtain ⟨A, c, h1, h2, h3⟩ := h k l hk
  refine ⟨_, _, _, rfl, ⟨A, c, rfl, h2, h3.bG (below_alloc (Below.refl _ _) _)⟩, rfl, fun i u hu => ?_⟩
  have hi : i = 0 := by
    have := (List.getElem?_eq_some_iff.1 hu).1
    simpa using this
  subst hi
  have hu' : Value.slice A l.length c = u := by simpa using hu
  subst hu'
  rw [World.cell?_alloc_new]
  simpa using h1
theorem RdGs.lit1 {w : World} {T : TypeId} {A : Option Addr} {c : Nat} {l : List G} (hc : l.length ≤ c) (h : RdG w A l) : RdGs (w.alloc (.cells #[.slice A l.length c] T)) (some ⟨w.heap.size, 0, none⟩) [l] :=
  RdGs.lit (cs := [.slice A l.length c]) (by simp) fun k l' hk => by
    rcases k with _ | k
    · have e : l = l' := by simpa using hk
      subst e
      exact ⟨A, c, rfl, hc, h⟩
    · simp at hk
def onW (ws : List Int) (l : List Int) : List Int := l.map fun k => ws.getD k.toNat 0
def onG (ws : List Int) (g : G) : G := { g with wires := onW ws g.wires }
theorem Dist.at {ps : List (G × Value)} (h : Dist ps) {i k : Nat} {p q : G × Value} (hi : ps[i]? = some p) (hk : ps[k]? = some q) (hne : k ≠ i) (b : Nat) (hb : p.2.ownBlock = some b) : q.2.ownBlock ≠ some b := by
  have H := List.pairwise_iff_getElem.1 h
  obtain ⟨hi1, hi2⟩ := List.getElem?_eq_some_iff.1 hi
  obtain ⟨hk1, hk2⟩ := List.getElem?_eq_some_iff.1 hk
  rcases Nat.lt_or_gt_of_ne hne with hlt | hlt
  · have := H k i hk1 hi1 hlt
    rw [hi2, hk2, hb] at this
    rcases this with h | h
    · rw [h]; simp
    · exact h
  · have := H i k hi1 hk1 hlt
    rw [hi2, hk2, hb] at this
    rcases this with h | h
    · cases h
    · exact fun e => h e.symm
theorem App.wire {ti tg B : Nat} {w : World} {v : Value} {ps : List (G × Value)} (hne : ti ≠ tg) (h : App (EGv ti B) tg 4 B w v ps) (hd : Dist ps) {i j gb n cap : Nat} {g : G} (hi : ps[i]? = some (g, .slice (some ⟨gb, 0, none⟩) n cap)) (x : Int) :
    App (EGv ti B) tg 4 B (w.setCell ⟨gb, j, none⟩ (.int .i64 x)) v (ps.set i ({ g with wires := g.wires.set j x }, .slice (some ⟨gb, 0, none⟩) n cap)) ∧ B ≤ gb := by
  obtain ⟨cs, ho, hr⟩ := h
  have hi1 := (List.getElem?_eq_some_iff.1 hi).1
  obtain ⟨e0, ci, hoi, hri⟩ := hr.2 i _ hi
  have hgb : B ≤ gb := own_base hoi gb rfl
  have hn : n = g.wires.length := by
    rcases hoi.2 with ⟨e, _⟩ | ⟨_, _, _, e, _⟩
    · simp at e
    · simp only [Value.slice.injEq] at e; exact e.2.1
  refine ⟨⟨cs, ?_, by rw [List.length_set]; exact hr.1, fun k p hk => ?_⟩, hgb⟩
  · rw [List.length_set]
    have := own_type_ne hoi ho hne
    refine ownsRow_setCell_other ho (fun e => ?_) _
    rcases this with h | h
    · simp [Value.ownBlock] at h
    · exact h (by rw [e]; rfl)
  · by_cases hki : k = i
    · subst hki
      rw [List.getElem?_set_self hi1] at hk
      cases hk
      refine ⟨e0, ?_⟩
      refine ⟨ci.set j (.int .i64 x), ?_, ?_⟩
      · have := (hn ▸ hoi).stored j (.int .i64 x)
        rw [List.length_set]
        exact hn ▸ this.1
      · refine ⟨by rw [List.length_set, List.length_set]; exact hri.1, fun m y hm => ?_⟩
        have hml : m < g.wires.length := by have := (List.getElem?_eq_some_iff.1 hm).1; simpa using this
        rw [List.getElem?_set] at hm
        have h1 := hri.2 m _ (List.getElem?_eq_getElem hml)
        have hcl : m < ci.length := by have := hri.1; simp at this; omega
        have key : ∀ (l : List Value) (h : m < l.length), (l.drop (m * 1)).take 1 = [l[m]] := fun l h => by
          rw [Nat.mul_one, List.drop_eq_getElem_cons h]; rfl
        rw [key _ (by rw [List.length_set]; exact hcl), List.getElem_set]
        split at hm
        · rename_i hjm
          subst hjm
          rw [if_pos hml] at hm
          cases hm
          rw [if_pos rfl]; rfl
        · rename_i hjm
          rw [if_neg hjm]
          rw [key _ hcl] at h1
          have : g.wires[m] = y := by rw [List.getElem?_eq_getElem hml] at hm; exact Option.some.inj hm
          rw [this] at h1
          exact h1
    · rw [List.getElem?_set_ne (fun e => hki e.symm)] at hk
      obtain ⟨e1, c1, ho1, hr1⟩ := hr.2 k p hk
      exact ⟨e1, c1, ownsRow_setCell_other ho1 (hd.at hi hk hki gb rfl) _, hr1⟩
theorem Dist.set {ps : List (G × Value)} (h : Dist ps) {i : Nat} {g g' : G} {u : Value} (hi : ps[i]? = some (g, u)) : Dist (ps.set i (g', u)) := by
  rw [Dist, List.pairwise_iff_getElem] at *
  intro a b ha hb hab
  rw [List.length_set] at ha hb
  have := h a b ha hb hab
  obtain ⟨hi1, hi2⟩ := List.getElem?_eq_some_iff.1 hi
  rw [List.getElem_set, List.getElem_set]
  split <;> split <;> simp_all
theorem App.gateAt {ti tg B : Nat} {w : World} {A : Option Addr} {n c : Nat} {qs : List (G × Value)} (h : App (EGv ti B) tg 4 B w (.slice A n c) qs) {k : Nat} {g : G} {v : Value} (hk : qs[k]? = some (g, v)) :
    ∃ b, A = some ⟨b, 0, none⟩ ∧ w.cell? ⟨b, k * 4, none⟩ = some (.int .i64 g.kind) ∧ w.cell? ⟨b, k * 4 + 1, none⟩ = some v ∧ w.cell? ⟨b, k * 4 + 2, none⟩ = some (.int .i64 g.bit) ∧ w.cell? ⟨b, k * 4 + 3, none⟩ = some (.int .i64 g.cif) ∧ App EI ti 1 B w v g.wires := by
  obtain ⟨cs, ho, hr⟩ := h
  rcases ho.2 with ⟨_, h0⟩ | ⟨b, cap, cur, e, _⟩
  · have := (List.getElem?_eq_some_iff.1 hk).1
    omega
  · simp only [Value.slice.injEq] at e
    obtain ⟨rfl, _, _⟩ := e
    obtain ⟨e1, ha⟩ := hr.2 k _ hk
    have key : ∀ i u, ((cs.drop (k * 4)).take 4)[i]? = some u → w.cell? ⟨b, k * 4 + i, none⟩ = some u := fun i u hu => by
      rw [List.getElem?_take] at hu
      split at hu
      · rw [List.getElem?_drop] at hu
        have := ho.cells (g := b) rfl _ u hu
        have ha : (⟨b, 0, none⟩ : Addr).add (k * 4 + i) = ⟨b, k * 4 + i, none⟩ := by unfold Addr.add; split <;> simp_all
        rwa [ha] at this
      · cases hu
    rw [e1] at key
    exact ⟨b, rfl, by simpa using key 0 _ rfl, key 1 _ rfl, key 2 _ rfl, key 3 _ rfl, ha⟩
theorem App.intAt {ti B : Nat} {w : World} {A : Option Addr} {n c : Nat} {xs : List Int} (h : App EI ti 1 B w (.slice A n c) xs) {j : Nat} {x : Int} (hj : xs[j]? = some x) :
    ∃ b, A = some ⟨b, 0, none⟩ ∧ w.cell? ⟨b, j, none⟩ = some (.int .i64 x) ∧ w.frozen? ⟨b, j, none⟩ = false ∧ B ≤ b ∧ b < w.heap.size := by
  obtain ⟨cs, ho, hr⟩ := h
  have hjl := (List.getElem?_eq_some_iff.1 hj).1
  rcases ho.2 with ⟨_, h0⟩ | ⟨b, cap, cur, e, hb, _⟩
  · omega
  · simp only [Value.slice.injEq] at e
    obtain ⟨rfl, rfl, rfl⟩ := e
    have h1 : (cs.drop (j * 1)).take 1 = [.int .i64 x] := hr.2 j x hj
    refine ⟨b, rfl, ?_, ho.frozenAt j, hb, (ho.lt b rfl).2⟩
    rw [ho.cellAt j (by omega)]
    have hcl : j < cs.length := by have := hr.1; omega
    rw [Nat.mul_one, List.drop_eq_getElem_cons hcl, List.take_succ_cons, List.take_zero] at h1
    rw [List.getElem?_eq_getElem hcl, (List.cons.inj h1).1]
theorem onW_set (ws l : List Int) (j : Nat) (hj : j < l.length) : (onW ws (l.take j) ++ l.drop j).set j (ws.getD (l[j]).toNat 0) = onW ws (l.take (j + 1)) ++ l.drop (j + 1) := by
  have h1 : (onW ws (l.take j)).length = j := by simp [onW]; omega
  rw [List.set_append_right _ _ (by omega), h1, Nat.sub_self, List.drop_eq_getElem_cons hj, List.set_cons_zero, List.take_succ_eq_append_getElem hj]
  unfold onW
  rw [List.map_append, List.append_assoc]
  rfl
theorem onW_at (ws l : List Int) (j : Nat) (hj : j < l.length) : (onW ws (l.take j) ++ l.drop j)[j]? = some l[j] := by
  have h1 : (onW ws (l.take j)).length = j := by simp [onW]; omega
  rw [List.getElem?_append_right (by omega), h1, Nat.sub_self, List.getElem?_drop]
  simp [hj]
def onP (ws : List Int) (j : Nat) (g : G) : G := { g with wires := onW ws (g.wires.take j) ++ g.wires.drop j }
theorem onP_zero (ws : List Int) (g : G) : onP ws 0 g = g := by simp [onP, onW]
theorem onP_end (ws : List Int) (g : G) (j : Nat) (h : g.wires.length ≤ j) : onP ws j g = onG ws g := by simp [onP, onG, List.take_of_length_le h, List.drop_eq_nil_of_le h]
theorem mid_at {α : Type} (l : List α) (m : List α) (k : Nat) (hk : k < l.length) (hm : m.length = k) : (m ++ l.drop k)[k]? = some l[k] := by
  rw [List.getElem?_append_right (by omega), hm, Nat.sub_self, List.getElem?_drop]
  simp [hk]
theorem mid_set {α : Type} (l : List α) (m : List α) (x y : α) (k : Nat) (hm : m.length = k) : (m ++ x :: l).set k y = m ++ y :: l := by
  rw [List.set_append_right _ _ (by omega), hm, Nat.sub_self, List.set_cons_zero]
set_option maxRecDepth 100000 in
set_option maxHeartbeats 4000000 in
theorem on_any (A B : Option Addr) (c d : Nat) (gs : List G) (ws : List Int) (w : World) (h : RdG w A gs) (hc : gs.length ≤ c) (h' : RdI w B ws) (hgs : gs.length ≤ 1000000) (hg : ∀ g ∈ gs, g.wires.length ≤ 1000000 ∧ ∀ k ∈ g.wires, 0 ≤ k ∧ k < ws.length) :
    Calls Tryz.prog 143 #[.slice A gs.length c, .slice B ws.length d] w fun e w' => ∃ v, e = .returned v ∧ Own 3 55 w.heap.size w' v (gs.map (onG ws)) ∧ Below w.heap.size w w' := by
  have HR := Lib.hid h
  have HR' := Lib.hid h'
  have HG := Lib.hid hg
  have HL := Lib.hid hgs
  clear h h' hg
  go_enter Tryz.func143, Tryz.ntmps143
  go_wp2_with fail
  have hcp := copied_any _ 1 [gs] _ (RdGs.lit1 (T := 22) hc HR.out) (fun l hl g hg => (HG.out g (by simpa using (List.mem_singleton.1 hl) ▸ hg)).1) (by simpa using HL.out)
  refine hcp.mono ?_
  clear hcp
  rintro e w1 ⟨v, rfl, ⟨ps, hps, hd, ho⟩, hb⟩
  have HO := Lib.hid (show App (EGv 3 w.heap.size) 55 4 w.heap.size w1 v ps from ho.imp (by simp) (fun _ _ h => h.weak (by simp)))
  have HB := Lib.hid (show Below w.heap.size w w1 from (below_alloc (Below.refl _ _) _).trans (hb.mono (by simp)))
  have HP := Lib.hid (And.intro (show ps.map Prod.fst = gs by simpa using hps) hd)
  have hpl : ps.length = gs.length := by have := congrArg List.length hps; simpa using this
  clear ho hb hps hd
  obtain ⟨A1, c1, rfl, hc1⟩ := HO.out.form
  rw [hpl] at HO hc1
  go_wp2
  go_loopw [15] (fun i wr => ∃ k : Nat, k ≤ gs.length ∧ i = .int .i64 k ∧ Hid (∃ qs, qs.map Prod.fst = (gs.take k).map (onG ws) ++ gs.drop k ∧ Dist qs ∧ App (EGv 3 w.heap.size) 55 4 w.heap.size wr (.slice A1 gs.length c1) qs) ∧ Below w.heap.size w wr) (fun i _ => gs.length - (intOf i).toNat)
  case atStart => exact ⟨0, Nat.zero_le _, rfl, Lib.hid ⟨ps, by simpa using HP.out.1, HP.out.2, HO.out⟩, HB.out⟩
  case round =>
    obtain ⟨k, hk, rfl, HQ, hB⟩ := hrel
    by_cases hlt : k < gs.length
    · obtain ⟨qs, hq1, hq2, hq3⟩ := HQ.out
      have hql : qs.length = gs.length := by have := congrArg List.length hq1; simp at this; omega
      obtain ⟨v, hqk⟩ : ∃ v, qs[k]? = some (gs[k], v) := by
        have : (qs.map Prod.fst)[k]? = some gs[k] := by rw [hq1]; exact mid_at _ _ _ hlt (by simp; omega)
        rw [List.getElem?_map] at this
        obtain ⟨p, hp, e⟩ := Option.map_eq_some_iff.1 this
        exact ⟨p.2, by rw [hp, ← e]⟩
      obtain ⟨b1, rfl, h0, h1, h2, h3, hin⟩ := hq3.gateAt hqk
      obtain ⟨g, hg⟩ : ∃ g, gs[k] = g := ⟨_, rfl⟩
      rw [hg] at h0 h2 h3 hin hqk
      have hgm := HG.out g (hg ▸ List.getElem_mem hlt)
      have HGM := Lib.hid hgm.2
      have hgl := hgm.1
      clear hgm
      obtain ⟨A2, c2, rfl, hc2⟩ := hin.form
      have HGB := Lib.hid (show ∀ b, A2 = some ⟨b, 0, none⟩ → b < wr.heap.size from fun b e => by
        rcases hin.block with h | ⟨b', h, _, h'⟩
        · rw [e] at h; cases h
        · rw [e] at h; cases h; exact h')
      have HIN := Lib.hid hin
      have HQ3 := Lib.hid (And.intro hqk (And.intro hq1 (And.intro hq2 hq3)))
      have HGK := Lib.hid hg
      have hold := olds wr
      have lb := cell_lt h0
      clear hin hqk hq1 hq2 hq3 HQ hg
      go_wp2
      go_loopw [22] (fun i w2 => ∃ j : Nat, j ≤ g.wires.length ∧ i = .int .i64 j ∧ Hid (∃ qs, qs[k]? = some (onP ws j g, .slice A2 g.wires.length c2) ∧ qs.map Prod.fst = (gs.take k).map (onG ws) ++ onP ws j g :: gs.drop (k + 1) ∧ Dist qs ∧ App (EGv 3 w.heap.size) 55 4 w.heap.size w2 (.slice (some ⟨b1, 0, none⟩) gs.length c1) qs) ∧ Hid (w2.cell? ⟨wr.heap.size, 1, none⟩ = some (.slice A2 g.wires.length c2)) ∧ Below w.heap.size w w2) (fun i _ => g.wires.length - (intOf i).toNat)
      case atStart => exact ⟨0, Nat.zero_le _, rfl, Lib.hid (by
          rw [onP_zero]
          obtain ⟨hqk, hq1, hq2, hq3⟩ := HQ3.out
          exact ⟨qs, hqk, by rw [hq1, drop_cons gs k hlt, HGK.out], hq2, hq3.alloc (EGv.stays _ _) _⟩), Lib.hid (by go_simp), below_alloc hB _⟩
      case round =>
        obtain ⟨j, hj, rfl, HQ4, HC4, hB4⟩ := hrel
        by_cases hlt2 : j < g.wires.length
        · obtain ⟨qs', hqk', hq1', hq2', hq3'⟩ := HQ4.out
          obtain ⟨_, e, _, _, _, _, hin⟩ := hq3'.gateAt hqk'
          have hxj : (onP ws j g).wires[j]? = some g.wires[j] := onW_at ws g.wires j hlt2
          obtain ⟨gb, rfl, hx, hz, hgb1, hgb2⟩ := hin.intAt hxj
          obtain ⟨x, hxx⟩ : ∃ x, g.wires[j] = x := ⟨_, rfl⟩
          rw [hxx] at hx hxj
          obtain ⟨hx0, hx1⟩ := HGM.out x (hxx ▸ List.getElem_mem hlt2)
          obtain ⟨m, rfl⟩ : ∃ m : Nat, x = m := ⟨x.toNat, by omega⟩
          have hm : m < ws.length := by omega
          obtain ⟨b5, o5, rfl, hy⟩ := (HR'.out.bI hB4).int m hm
          have HQ5 := Lib.hid (And.intro hqk' (And.intro hq1' (And.intro hq2' (And.intro hq3' hxx))))
          have HLT := Lib.hid (HGB.out gb rfl)
          have hc4 := HC4.out
          clear hqk' hq1' hq2' hq3' hxx hx1 hx0 hin hxj
          go_wp2_with fail
          go_region
          obtain ⟨hqk', hq1', hq2', hq3', hxx⟩ := HQ5.out
          obtain ⟨hn1, hn2⟩ := App.wire (j := j) (by decide) hq3' hq2' hqk' ws[m]
          have hse : ({ onP ws j g with wires := (onP ws j g).wires.set j ws[m] } : G) = onP ws (j + 1) g := by
            have := onW_set ws g.wires j hlt2
            rw [hxx] at this
            unfold onP
            simp only [Int.toNat_natCast] at this
            rw [show ws.getD m 0 = ws[m] by simp [hm]] at this
            rw [this]
          rw [hse] at hn1
          have HN := Lib.hid (show ∃ qs, qs[k]? = some (onP ws (j + 1) g, Value.slice (some ⟨gb, 0, none⟩) g.wires.length c2) ∧ qs.map Prod.fst = (gs.take k).map (onG ws) ++ onP ws (j + 1) g :: gs.drop (k + 1) ∧ Dist qs ∧ App (EGv 3 w.heap.size) 55 4 w.heap.size (wr.setCell ⟨gb, j, none⟩ (.int .i64 ws[m])) (.slice (some ⟨b1, 0, none⟩) gs.length c1) qs from
            ⟨_, List.getElem?_set_self (List.getElem?_eq_some_iff.1 hqk').1, by rw [List.map_set, hq1', mid_set _ _ _ _ _ (by simp; omega)], hq2'.set hqk', hn1⟩)
          have HC5 := Lib.hid ((World.cell?_setCell_other wr ⟨gb, j, none⟩ ⟨_, 1, none⟩ (.int .i64 ws[m]) (fun e => by have := HLT.out; injection e; omega)).trans HC4.out)
          have HB5 := Lib.hid (hB4.setCell (p := ⟨gb, j, none⟩) hgb1 (.int .i64 ws[m]))
          clear hqk' hq1' hq2' hq3' hxx hn1 hn2 hse
          go_wp2
          go_roundw
          case rel => exact ⟨j + 1, by omega, by go_num, Lib.hid (by
            obtain ⟨qs, g1, g2, g3, g4⟩ := HN.out
            exact ⟨qs, g1, g2, g3, g4.below (EGv.stays _ _) (Below.drew (Below.refl _ _))⟩), Lib.hid HC5.out, HB5.out.drew⟩
          case measure => simp [intOf]; omega
        · have HN := Lib.hid (show ∃ qs, qs.map Prod.fst = (gs.take (k + 1)).map (onG ws) ++ gs.drop (k + 1) ∧ Dist qs ∧ App (EGv 3 w.heap.size) 55 4 w.heap.size wr (.slice (some ⟨b1, 0, none⟩) gs.length c1) qs from by
            obtain ⟨qs, g1, g2, g3, g4⟩ := HQ4.out
            refine ⟨qs, ?_, g3, g4⟩
            rw [g2, onP_end _ _ _ (by omega), List.take_succ_eq_append_getElem hlt, HGK.out, List.map_append]
            simp)
          go_wp2
          go_roundw
          case rel => exact ⟨k + 1, by omega, by go_num, HN, hB4⟩
          case measure => simp [intOf]; omega
    · have HN := Lib.hid (show Own 3 55 w.heap.size wr (.slice A1 gs.length c1) (gs.map (onG ws)) from by
        obtain ⟨qs, g2, g3, g4⟩ := HQ.out
        refine ⟨qs, ?_, g3, g4⟩
        rw [g2, List.take_of_length_le (by omega), List.drop_eq_nil_of_le (by omega), List.append_nil])
      go_wp2
      go_ret
      exact ⟨_, rfl, HN.out, hB⟩
def anyB (f : Nat → Bool) : Bool := (List.range 12).any f
theorem neq12 (b0 b1 b2 b3 b4 b5 b6 b7 b8 b9 b10 b11 : Bool) (w : World) :
    (binOp .neq 200 (.agg #[.bool b0, .bool b1, .bool b2, .bool b3, .bool b4, .bool b5, .bool b6, .bool b7, .bool b8, .bool b9, .bool b10, .bool b11]) (.agg #[.bool false, .bool false, .bool false, .bool false, .bool false, .bool false, .bool false, .bool false, .bool false, .bool false, .bool false, .bool false])).run Tryz.prog w =
      .ok (.bool (b0 || (b1 || (b2 || (b3 || (b4 || (b5 || (b6 || (b7 || (b8 || (b9 || (b10 || b11)))))))))))) w := by
  cases b0
  · cases b1
    · cases b2
      · cases b3
        · cases b4
          · cases b5
            · cases b6
              · cases b7
                · cases b8
                  · cases b9
                    · cases b10
                      · cases b11
                        · kernel_rfl
                        · kernel_rfl
                      · kernel_rfl
                    · kernel_rfl
                  · kernel_rfl
                · kernel_rfl
              · kernel_rfl
            · kernel_rfl
          · kernel_rfl
        · kernel_rfl
      · kernel_rfl
    · kernel_rfl
  · kernel_rfl
theorem neqB (f : Nat → Bool) (w : World) : (binOp .neq 200 (.agg (bv f)) (.agg #[.bool false, .bool false, .bool false, .bool false, .bool false, .bool false, .bool false, .bool false, .bool false, .bool false, .bool false, .bool false])).run Tryz.prog w = .ok (.bool (anyB f)) w := by
  have h := neq12 (f 0) (f 1) (f 2) (f 3) (f 4) (f 5) (f 6) (f 7) (f 8) (f 9) (f 10) (f 11) w
  have e : anyB f = (f 0 || (f 1 || (f 2 || (f 3 || (f 4 || (f 5 || (f 6 || (f 7 || (f 8 || (f 9 || (f 10 || f 11))))))))))) := by
    simp [anyB, show List.range 12 = [0, 1, 2, 3, 4, 5, 6, 7, 8, 9, 10, 11] from rfl]
  rw [e]
  exact h
def meets (a b : List Int) : Bool := a.any fun x => decide (x ∈ b)
theorem anyB_meets (a b : List Int) (ha : ∀ x ∈ a, 0 ≤ x ∧ x < 12) : anyB (fun i => inW a i && inW b i) = meets a b := by
  rw [Bool.eq_iff_iff]
  unfold anyB meets inW
  simp only [List.any_eq_true, List.mem_range, Bool.and_eq_true, decide_eq_true_eq]
  constructor
  · rintro ⟨i, _, h1, h2⟩
    exact ⟨_, h1, h2⟩
  · rintro ⟨x, h1, h2⟩
    have := ha x h1
    exact ⟨x.toNat, by omega, by rwa [Int.toNat_of_nonneg this.1], by rwa [Int.toNat_of_nonneg this.1]⟩
def Right (g : G) : Prop := (∀ x ∈ g.wires, 0 ≤ x ∧ x < 12) ∧ g.kind ≠ 13
set_option maxRecDepth 100000 in
set_option maxHeartbeats 4000000 in
theorem meet_any (A B : Option Addr) (c d : Nat) (g h : G) (w : World) (hr : RdI w A g.wires) (hr' : RdI w B h.wires) (hg : Right g) (hh : Right h) :
    Calls Tryz.prog 179 #[.agg #[.int .i64 g.kind, .slice A g.wires.length c, .int .i64 g.bit, .int .i64 g.cif], .agg #[.int .i64 h.kind, .slice B h.wires.length d, .int .i64 h.bit, .int .i64 h.cif]] w fun e w' => e = .returned (.bool (meets g.wires h.wires)) ∧ Below w.heap.size w w' := by
  have HM := Lib.hid (anyB_meets g.wires h.wires hg.1)
  obtain ⟨q, hq⟩ : ∃ q, meets g.wires h.wires = q := ⟨_, rfl⟩
  rw [hq] at HM ⊢
  have hneq : ∀ w, (binOp .neq 200 (.agg (bv (fun i => inW g.wires i && inW h.wires i))) (.agg #[.bool false, .bool false, .bool false, .bool false, .bool false, .bool false, .bool false, .bool false, .bool false, .bool false, .bool false, .bool false])).run Tryz.prog w = .ok (.bool q) w := fun w => by rw [neqB, HM.out]
  have HR := Lib.hid (And.intro hr hr')
  have HG := Lib.hid (And.intro hg hh)
  clear hr hr' hg hh hq
  obtain ⟨W0, hW0⟩ : ∃ W0, (w.alloc (.cells #[.int .i64 g.kind, .slice A g.wires.length c, .int .i64 g.bit, .int .i64 g.cif] 55)).alloc (.cells #[.int .i64 h.kind, .slice B h.wires.length d, .int .i64 h.bit, .int .i64 h.cif] 55) = W0 := ⟨_, rfl⟩
  have HB0 := Lib.hid (show Below w.heap.size w W0 by rw [← hW0]; (repeat (first|exact bR _ _|assumption|apply bN|apply bA|apply bD)))
  have HD : Hid (∀ W', Below W0.heap.size W0 W' → RdI W' A g.wires ∧ RdI W' B h.wires) := Lib.hid fun W' hb => ⟨HR.out.1.bI (HB0.out.trans (hb.mono HB0.out.size)), HR.out.2.bI (HB0.out.trans (hb.mono HB0.out.size))⟩
  have HC : Hid (∀ W', Below W0.heap.size W0 W' → (W'.cell? ⟨w.heap.size, 0, none⟩ = some (.int .i64 g.kind) ∧ W'.cell? ⟨w.heap.size, 1, none⟩ = some (.slice A g.wires.length c) ∧ W'.cell? ⟨w.heap.size, 2, none⟩ = some (.int .i64 g.bit) ∧ W'.cell? ⟨w.heap.size, 3, none⟩ = some (.int .i64 g.cif) ∧ W'.cell? ⟨w.heap.size + 1, 0, none⟩ = some (.int .i64 h.kind) ∧ W'.cell? ⟨w.heap.size + 1, 1, none⟩ = some (.slice B h.wires.length d) ∧ W'.cell? ⟨w.heap.size + 1, 2, none⟩ = some (.int .i64 h.bit) ∧ W'.cell? ⟨w.heap.size + 1, 3, none⟩ = some (.int .i64 h.cif))) := by
    refine Lib.hid fun W' hb => ?_
    subst hW0
    exact ⟨kc hb (by go_simp), kc hb (by go_simp), kc hb (by go_simp), kc hb (by go_simp), kc hb (by go_simp), kc hb (by go_simp), kc hb (by go_simp), kc hb (by go_simp)⟩
  have HW := Lib.hid hW0
  clear hW0
  cases q
  · go_enter Tryz.func179, Tryz.ntmps179
    go_wp2_with fail
    rw [HW.out]
    go_region_held3 (fun W' => W'.cell? ⟨w.heap.size, 0, none⟩ = some (.int .i64 g.kind) ∧ W'.cell? ⟨w.heap.size, 1, none⟩ = some (.slice A g.wires.length c) ∧ W'.cell? ⟨w.heap.size, 2, none⟩ = some (.int .i64 g.bit) ∧ W'.cell? ⟨w.heap.size, 3, none⟩ = some (.int .i64 g.cif) ∧ W'.cell? ⟨w.heap.size + 1, 0, none⟩ = some (.int .i64 h.kind) ∧ W'.cell? ⟨w.heap.size + 1, 1, none⟩ = some (.slice B h.wires.length d) ∧ W'.cell? ⟨w.heap.size + 1, 2, none⟩ = some (.int .i64 h.bit) ∧ W'.cell? ⟨w.heap.size + 1, 3, none⟩ = some (.int .i64 h.cif)) (exact HC.out _ (by (repeat (first|exact bR _ _|assumption|apply bN|apply bA|apply bD)))) (first
      | (go_at_call 182; refine (of_any _ _ _ _ (by first | exact (HD.out _ (by (repeat (first|exact bR _ _|assumption|apply bN|apply bA|apply bD)))).1 | exact (HD.out _ (by (repeat (first|exact bR _ _|assumption|apply bN|apply bA|apply bD)))).2) (by first | exact HG.out.1.1 | exact HG.out.2.1)).mono ?_; rintro e w2 ⟨rfl, hb⟩; have hb2 := Below.trans (show Below W0.heap.size W0 _ by (repeat (first|exact bR _ _|assumption|apply bN|apply bA|apply bD))) (hb.mono (by first | exact Nat.le_refl _ | exact Below.size (by (repeat (first|exact bR _ _|assumption|apply bN|apply bA|apply bD))) | simp)); clear hb)
      | (go_at_call 190; refine (both_any _ _ _).mono ?_; rintro e w2 ⟨rfl, hb⟩; have hb2 := Below.trans (show Below W0.heap.size W0 _ by (repeat (first|exact bR _ _|assumption|apply bN|apply bA|apply bD))) (hb.mono (by first | exact Nat.le_refl _ | exact Below.size (by (repeat (first|exact bR _ _|assumption|apply bN|apply bA|apply bD))) | simp)); clear hb)
      | (go_at_call 180; refine (touches_no _ _ _ _ _ _ _ (by first | exact HG.out.1.2 | exact HG.out.2.2)).mono ?_; rintro e w2 ⟨rfl, hb⟩; have hb2 := Below.trans (show Below W0.heap.size W0 _ by (repeat (first|exact bR _ _|assumption|apply bN|apply bA|apply bD))) (hb.mono (by first | exact Nat.le_refl _ | exact Below.size (by (repeat (first|exact bR _ _|assumption|apply bN|apply bA|apply bD))) | simp)); clear hb))
    all_goals
      go_wp2
      go_ret
      exact ⟨rfl, HB0.out.trans (Below.mono (B := W0.heap.size) (by (repeat (first|exact bR _ _|assumption|apply bN|apply bA|apply bD))) HB0.out.size)⟩
  · go_enter Tryz.func179, Tryz.ntmps179
    go_wp2_with fail
    rw [HW.out]
    obtain ⟨_, _, _, _, _, _, _, _⟩ := HC.out W0 (Below.refl _ _)
    go_region_with (first
      | (go_at_call 182; refine (of_any _ _ _ _ (by first | exact (HD.out _ (by (repeat (first|exact bR _ _|assumption|apply bN|apply bA|apply bD)))).1 | exact (HD.out _ (by (repeat (first|exact bR _ _|assumption|apply bN|apply bA|apply bD)))).2) (by first | exact HG.out.1.1 | exact HG.out.2.1)).mono ?_; rintro e w2 ⟨rfl, hb⟩; have hb2 := Below.trans (show Below W0.heap.size W0 _ by (repeat (first|exact bR _ _|assumption|apply bN|apply bA|apply bD))) (hb.mono (by first | exact Nat.le_refl _ | exact Below.size (by (repeat (first|exact bR _ _|assumption|apply bN|apply bA|apply bD))) | simp)); clear hb; obtain ⟨_, _, _, _, _, _, _, _⟩ := HC.out _ hb2)
      | (go_at_call 190; refine (both_any _ _ _).mono ?_; rintro e w2 ⟨rfl, hb⟩; have hb2 := Below.trans (show Below W0.heap.size W0 _ by (repeat (first|exact bR _ _|assumption|apply bN|apply bA|apply bD))) (hb.mono (by first | exact Nat.le_refl _ | exact Below.size (by (repeat (first|exact bR _ _|assumption|apply bN|apply bA|apply bD))) | simp)); clear hb; obtain ⟨_, _, _, _, _, _, _, _⟩ := HC.out _ hb2)
      | (go_at_call 180; refine (touches_no _ _ _ _ _ _ _ (by first | exact HG.out.1.2 | exact HG.out.2.2)).mono ?_; rintro e w2 ⟨rfl, hb⟩; have hb2 := Below.trans (show Below W0.heap.size W0 _ by (repeat (first|exact bR _ _|assumption|apply bN|apply bA|apply bD))) (hb.mono (by first | exact Nat.le_refl _ | exact Below.size (by (repeat (first|exact bR _ _|assumption|apply bN|apply bA|apply bD))) | simp)); clear hb; obtain ⟨_, _, _, _, _, _, _, _⟩ := HC.out _ hb2))
    all_goals
      go_wp2
      go_ret
      exact ⟨rfl, HB0.out.trans (Below.mono (B := W0.heap.size) (by (repeat (first|exact bR _ _|assumption|apply bN|apply bA|apply bD))) HB0.out.size)⟩
end Go.Proofs.YtfommmijojfdbaaGreatDoor
