/- Part 15 of the proof that 'spoondriftlaw19.RulesApplies' holds for every input; it has no condition beyond the statement's own. -/
import Derived.Test.YtfommmijojfdbaaGreatDoorZ13
import Derived.Test.YtfommmijojfdbaaGreatDoorZ08
import Derived.Test.YtfommmijojfdbaaGreatDoorZ04
set_option linter.all false
namespace Go.Proofs.YtfommmijojfdbaaGreatDoor
open Go.RowKit
theorem set4_get {α : Type} (cs : List α) (i : Nat) (c0 c1 c2 c3 : α) (h : i * 4 + 4 ≤ cs.length) (j : Nat) :
    (((((cs.set (i * 4) c0).set (i * 4 + 1) c1).set (i * 4 + 2) c2).set (i * 4 + 3) c3).drop (j * 4)).take 4 = if j = i then [c0, c1, c2, c3] else (cs.drop (j * 4)).take 4 := by
  by_cases hj : j = i
  · subst hj
    rw [if_pos rfl]
    apply List.ext_getElem?
    intro m
    rw [List.getElem?_take]
    rcases m with _ | _ | _ | _ | m
    · rw [if_pos (by omega), List.getElem?_drop, List.getElem?_set_ne (by omega), List.getElem?_set_ne (by omega), List.getElem?_set_ne (by omega), Nat.add_zero, List.getElem?_set_self (by omega)]; rfl
    · rw [if_pos (by omega), List.getElem?_drop, List.getElem?_set_ne (by omega), List.getElem?_set_ne (by omega), List.getElem?_set_self (by rw [List.length_set]; omega)]; rfl
    · rw [if_pos (by omega), List.getElem?_drop, List.getElem?_set_ne (by omega), List.getElem?_set_self (by rw [List.length_set, List.length_set]; omega)]; rfl
    · rw [if_pos (by omega), List.getElem?_drop, List.getElem?_set_self (by rw [List.length_set, List.length_set, List.length_set]; omega)]; rfl
    · rw [if_neg (by omega)]; simp
  · rw [if_neg hj]
    apply List.ext_getElem?
    intro m
    rw [List.getElem?_take, List.getElem?_take]
    split
    · rw [List.getElem?_drop, List.getElem?_drop, List.getElem?_set_ne (by omega), List.getElem?_set_ne (by omega), List.getElem?_set_ne (by omega), List.getElem?_set_ne (by omega)]
    · rfl
theorem App.setGate {ti tg B : Nat} {w : World} {b c : Nat} {ps : List (G × Value)} (hne : ti ≠ tg) (h : App (EGv ti B) tg 4 B w (.slice (some ⟨b, 0, none⟩) ps.length c) ps) {i : Nat} (hi : i < ps.length) {p : G × Value} (hp : App EI ti 1 B w p.2 p.1.wires) :
    App (EGv ti B) tg 4 B ((((w.setCell ⟨b, i * 4, none⟩ (.int .i64 p.1.kind)).setCell ⟨b, i * 4 + 1, none⟩ p.2).setCell ⟨b, i * 4 + 2, none⟩ (.int .i64 p.1.bit)).setCell ⟨b, i * 4 + 3, none⟩ (.int .i64 p.1.cif)) (.slice (some ⟨b, 0, none⟩) ps.length c) (ps.set i p) ∧
      ∀ v xs, App EI ti 1 B w v xs → App EI ti 1 B ((((w.setCell ⟨b, i * 4, none⟩ (.int .i64 p.1.kind)).setCell ⟨b, i * 4 + 1, none⟩ p.2).setCell ⟨b, i * 4 + 2, none⟩ (.int .i64 p.1.bit)).setCell ⟨b, i * 4 + 3, none⟩ (.int .i64 p.1.cif)) v xs := by
  obtain ⟨cs, ho, hr⟩ := h
  have other : ∀ {W : World} {cs' : List Value} (a : Nat) (u : Value) {v : Value} {xs : List Int}, W.ownsRow B tg 4 (.slice (some ⟨b, 0, none⟩) ps.length c) ps.length cs' → App EI ti 1 B W v xs → App EI ti 1 B (W.setCell ⟨b, a, none⟩ u) v xs := by
    rintro W cs' a u v xs ho ⟨c1, ho1, hr1⟩
    refine ⟨c1, ownsRow_setCell_other ho1 (fun e => ?_) _, hr1⟩
    rcases own_type_ne ho1 ho hne with h | h
    · rw [h] at e; cases e
    · exact h e
  have o1 := (ho.stored (i * 4) (.int .i64 p.1.kind)).1
  have o2 := (o1.stored (i * 4 + 1) p.2).1
  have o3 := (o2.stored (i * 4 + 2) (.int .i64 p.1.bit)).1
  have o4 := (o3.stored (i * 4 + 3) (.int .i64 p.1.cif)).1
  have keep : ∀ v xs, App EI ti 1 B w v xs → App EI ti 1 B ((((w.setCell ⟨b, i * 4, none⟩ (.int .i64 p.1.kind)).setCell ⟨b, i * 4 + 1, none⟩ p.2).setCell ⟨b, i * 4 + 2, none⟩ (.int .i64 p.1.bit)).setCell ⟨b, i * 4 + 3, none⟩ (.int .i64 p.1.cif)) v xs := fun v xs hv => other _ _ o3 (other _ _ o2 (other _ _ o1 (other _ _ ho hv)))
  refine ⟨⟨_, by rw [List.length_set]; exact o4, by rw [List.length_set, List.length_set, List.length_set, List.length_set, List.length_set]; exact hr.1, fun j q hq => ?_⟩, keep⟩
  have hcl : i * 4 + 4 ≤ cs.length := by rw [hr.1]; omega
  rw [set4_get cs i _ _ _ _ hcl j]
  by_cases hj : j = i
  · subst hj
    rw [List.getElem?_set_self hi] at hq
    cases hq
    rw [if_pos rfl]
    exact ⟨rfl, keep _ _ hp⟩
  · rw [List.getElem?_set_ne (fun e => hj e.symm)] at hq
    rw [if_neg hj]
    obtain ⟨e1, e2⟩ := hr.2 j q hq
    exact ⟨e1, keep _ _ e2⟩
theorem Own.drew {ti tg B : Nat} {w : World} {v : Value} {gs : List G} (h : Own ti tg B w v gs) : Own ti tg B w.drew v gs := by
  obtain ⟨ps, h1, h2, cs, ho, hr⟩ := h
  refine ⟨ps, h1, h2, cs, own_heap ho fun _ _ => rfl, hr.1, fun j p hj => ?_⟩
  obtain ⟨e, ci, hoi, hri⟩ := hr.2 j p hj
  exact ⟨e, ci, own_heap hoi fun _ _ => rfl, hri⟩
theorem App.swap {ti tg B : Nat} {w : World} {b n c : Nat} {ps : List (G × Value)} (hne : ti ≠ tg) (h : App (EGv ti B) tg 4 B w (.slice (some ⟨b, 0, none⟩) n c) ps) (hn : ps.length = n) {i : Nat} {pg qg : G} {pv qv : Value} (hi : ps[i]? = some (pg, pv)) (hk : ps[i + 1]? = some (qg, qv))
    (hp : App EI ti 1 B w pv pg.wires) (hq : App EI ti 1 B w qv qg.wires) :
    App (EGv ti B) tg 4 B ((((((((w.setCell ⟨b, i * 4, none⟩ (.int .i64 qg.kind)).setCell ⟨b, i * 4 + 1, none⟩ qv).setCell ⟨b, i * 4 + 2, none⟩ (.int .i64 qg.bit)).setCell ⟨b, i * 4 + 3, none⟩ (.int .i64 qg.cif)).setCell ⟨b, (i + 1) * 4, none⟩ (.int .i64 pg.kind)).setCell ⟨b, (i + 1) * 4 + 1, none⟩ pv).setCell ⟨b, (i + 1) * 4 + 2, none⟩ (.int .i64 pg.bit)).setCell ⟨b, (i + 1) * 4 + 3, none⟩ (.int .i64 pg.cif)) (.slice (some ⟨b, 0, none⟩) n c) ((ps.set i (qg, qv)).set (i + 1) (pg, pv)) := by
  subst hn
  have hi1 := (List.getElem?_eq_some_iff.1 hi).1
  have hk1 := (List.getElem?_eq_some_iff.1 hk).1
  obtain ⟨s1, k1⟩ := App.setGate hne h (i := i) hi1 (p := (qg, qv)) hq
  have hl : (ps.set i (qg, qv)).length = ps.length := by rw [List.length_set]
  rw [← hl] at s1
  obtain ⟨s2, _⟩ := App.setGate hne s1 (i := i + 1) (by rw [hl]; exact hk1) (p := (pg, pv)) (k1 _ _ hp)
  rw [hl] at s2
  exact s2
theorem map_swap {ps : List (G × Value)} {i : Nat} {pg qg : G} {pv qv : Value} {gs : List G} (h : ps.map Prod.fst = gs) (hi : ps[i]? = some (pg, pv)) (hk : ps[i + 1]? = some (qg, qv)) : ((ps.set i (qg, qv)).set (i + 1) (pg, pv)).map Prod.fst = (gs.set i qg).set (i + 1) pg ∧ gs[i]? = some pg ∧ gs[i + 1]? = some qg := by
  subst h
  refine ⟨by rw [List.map_set, List.map_set], by rw [List.getElem?_map, hi]; rfl, by rw [List.getElem?_map, hk]; rfl⟩
theorem Dist.swap {ps : List (G × Value)} (h : Dist ps) {i : Nat} {p q : G × Value} (hi : ps[i]? = some p) (hk : ps[i + 1]? = some q) : Dist ((ps.set i q).set (i + 1) p) := by
  have H := List.pairwise_iff_getElem.1 h
  obtain ⟨hi1, hi2⟩ := List.getElem?_eq_some_iff.1 hi
  obtain ⟨hk1, hk2⟩ := List.getElem?_eq_some_iff.1 hk
  have sym : ∀ a b (ha : a < ps.length) (hb : b < ps.length), a ≠ b → (ps[a].2.ownBlock = none ∨ ps[a].2.ownBlock ≠ ps[b].2.ownBlock) := fun a b ha hb hne => by
    rcases Nat.lt_or_gt_of_ne hne with hlt | hlt
    · exact H a b ha hb hlt
    · rcases H b a hb ha hlt with h | h
      · by_cases hn : ps[a].2.ownBlock = none
        · exact .inl hn
        · exact .inr fun e => hn (e.trans h)
      · exact .inr fun e => h e.symm
  refine List.pairwise_iff_getElem.2 fun a b ha hb hab => ?_
  rw [List.length_set, List.length_set] at ha hb
  have idx : ∀ a (ha : a < ps.length), ((ps.set i q).set (i + 1) p)[a]'(by rw [List.length_set, List.length_set]; exact ha) = ps[if a = i then i + 1 else if a = i + 1 then i else a]'(by split <;> (try split) <;> omega) := fun a ha => by
    rw [List.getElem_set, List.getElem_set]
    by_cases h1 : a = i + 1
    · subst h1; simp [hi2]
    · by_cases h2 : a = i
      · subst h2; simp [hk2]
      · rw [if_neg (fun e => h1 e.symm), if_neg (fun e => h2 e.symm)]; simp [h1, h2]
  rw [idx a ha, idx b hb]
  refine sym _ _ _ _ ?_
  split <;> split <;> (try split) <;> (try split) <;> omega
def zeroC : C := ⟨0, 0, []⟩
def swapG (l : List G) (k : Nat) : List G := match l[k]?, l[k + 1]? with
  | some g, some h => (l.set k h).set (k + 1) g
  | _, _ => l
def fromOn (i : Nat) (back : Bool) (ws : List Int) : List G := (fromG i back).map (onG ws)
def toOn (i : Nat) (back : Bool) (ws : List Int) : List G := (toG i back).map (onG ws)
def notThere (c : C) (i at_ : Nat) (back : Bool) (ws : List Int) : Bool := decide (c.gates.length < at_ + (fromOn i back ws).length) || !decide (fromOn i back ws = (c.gates.drop at_).take (fromOn i back ws).length)
def stepN (c : C) (i at_ : Nat) (back : Bool) (ws : List Int) : Int × C × Int :=
  if notThere c i at_ back ws = true then (6, zeroC, 0)
  else if 120 < (c.gates.length : Int) + (toOn i back ws).length - (fromOn i back ws).length then (11, zeroC, 0)
  else (0, ⟨c.wires, c.bits, c.gates.take at_ ++ toOn i back ws ++ c.gates.drop (at_ + (fromOn i back ws).length)⟩, phaseN i back)
def stepX (c : C) (at_ : Nat) : Int × C × Int := if exchOk c at_ = true then (0, ⟨c.wires, c.bits, swapG c.gates at_⟩, 0) else (6, zeroC, 0)
def stepR (c : C) (s : M) : Int × C × Int := if s.rule = 43 then stepX c s.at_.toNat else stepN c s.rule.toNat s.at_.toNat s.back s.wires
def moveE (c : C) (s : M) : Int :=
  if s.rule < 0 ∨ 44 ≤ s.rule then 1 else
  if s.at_ < 0 ∨ (c.gates.length : Int) < s.at_ then 3 else
  if (s.wires.length : Int) ≠ ruleW s.rule.toNat then 2 else
  if s.wires.all (fun k => decide (0 ≤ k ∧ k < c.wires)) = false then 1 else
  if ¬ s.wires.Nodup then 5 else
  if s.rule = 43 ∧ s.back = true then 7 else 0
def applyR (c : C) (s : M) : Int × C × Int := if moveE c s = 0 then stepR c s else (moveE c s, zeroC, 0)
def ApplyR (c : C) (s : M) : Int × C × Int := if plainE c = 0 then applyR c s else (plainE c, zeroC, 0)
def Good (c : C) : Prop := check c = 0 ∧ c.gates.all plainG = true
def RetC (x : Int × C × Int) (w : World) (e : Ending) (w' : World) : Prop :=
  ∃ v, e = .returned (.tuple #[.agg #[.int .i64 x.2.1.wires, .int .i64 x.2.1.bits, v], .int .i64 x.2.2, .int .i64 x.1]) ∧ Own 3 55 w.heap.size w' v x.2.1.gates ∧ Below w.heap.size w w'
theorem own_nil (ti tg B : Nat) (w : World) : Own ti tg B w (.slice none 0 0) [] := ⟨[], rfl, List.Pairwise.nil, App.nil _ _ _ _ _⟩
theorem plainE_good {c : C} : plainE c = 0 ↔ Good c := by
  unfold plainE Good
  by_cases h : check c = 0
  · rw [if_pos h]
    by_cases h' : c.gates.all plainG = true
    · rw [if_pos h']; simp [h, h']
    · rw [if_neg h']; simp [h']
  · rw [if_neg h]; simp [h]
theorem Good.len {c : C} (h : Good c) : c.gates.length ≤ 120 := by
  have := h.1
  unfold check at this
  split at this
  · cases this
  · split at this
    · cases this
    · omega
theorem Good.wires {c : C} (h : Good c) : ∀ g ∈ c.gates, g.wires.length ≤ 1000000 := fun g hg => by
  obtain ⟨h1, _⟩ := check_gate h.1 g hg
  obtain ⟨_, h2, _⟩ := gate_ok h1
  have := arity_le g.kind
  omega
theorem rule_wires (i : Nat) (hi : i < 44) : ∀ l, l = ruleL i ∨ l = ruleR i → l.length ≤ 15 ∧ ∀ g ∈ l, g.wires.length ≤ 3 ∧ ∀ k ∈ g.wires, 0 ≤ k ∧ k < ruleW i := by
  have key : ∀ l : List G, (decide (l.length ≤ 15) && l.all fun g => decide (g.wires.length ≤ 3) && g.wires.all fun k => decide (0 ≤ k) && decide (k < ruleW i)) = true → l.length ≤ 15 ∧ ∀ g ∈ l, g.wires.length ≤ 3 ∧ ∀ k ∈ g.wires, 0 ≤ k ∧ k < ruleW i := fun l h => by
    simpa [List.all_eq_true] using h
  have all : ∀ i, i < 44 → ((decide ((ruleL i).length ≤ 15) && (ruleL i).all fun g => decide (g.wires.length ≤ 3) && g.wires.all fun k => decide (0 ≤ k) && decide (k < ruleW i)) && (decide ((ruleR i).length ≤ 15) && (ruleR i).all fun g => decide (g.wires.length ≤ 3) && g.wires.all fun k => decide (0 ≤ k) && decide (k < ruleW i))) = true := by
    decide
  have := all i hi
  rw [Bool.and_eq_true] at this
  rintro l (rfl | rfl)
  · exact key _ this.1
  · exact key _ this.2
theorem from_wires (i : Nat) (hi : i < 44) (back : Bool) : (fromG i back).length ≤ 15 ∧ ∀ g ∈ fromG i back, g.wires.length ≤ 3 ∧ ∀ k ∈ g.wires, 0 ≤ k ∧ k < ruleW i :=
  rule_wires i hi _ (by unfold fromG; cases back <;> simp)
theorem to_wires (i : Nat) (hi : i < 44) (back : Bool) : (toG i back).length ≤ 15 ∧ ∀ g ∈ toG i back, g.wires.length ≤ 3 ∧ ∀ k ∈ g.wires, 0 ≤ k ∧ k < ruleW i :=
  rule_wires i hi _ (by unfold toG; cases back <;> simp)
set_option maxRecDepth 100000 in
set_option maxHeartbeats 4000000 in
theorem kOwn_any (A : Option Addr) (kc : Nat) (c : C) (w : World) (h : RdG w A c.gates) (hw : ∀ g ∈ c.gates, g.wires.length ≤ 1000000) (hl : c.gates.length ≤ 1000000) :
    Calls Tryz.prog 16 #[.agg #[.int .i64 c.wires, .int .i64 c.bits, .slice A c.gates.length kc]] w fun e w' => ∃ v, e = .returned (.agg #[.int .i64 c.wires, .int .i64 c.bits, v]) ∧ Own 3 55 w.heap.size w' v c.gates ∧ Below w.heap.size w w' := by
  have HR := Lib.hid h
  have HW := Lib.hid hw
  clear hw h
  go_enter Tryz.func16, Tryz.ntmps16
  go_upto_region 2 with fail
  obtain ⟨W1, hW1⟩ : ∃ W1, ((w.alloc (.cells #[.int .i64 c.wires, .int .i64 c.bits, .slice A c.gates.length kc] 24)).alloc (.cells #[.int .i64 0, .int .i64 0, .slice none 0 0] 24)).alloc (.cells #[.int .i64 c.wires, .int .i64 c.bits, .slice none 0 0] 24) = W1 := ⟨_, rfl⟩
  have hb1 : Below w.heap.size w W1 := by rw [← hW1]; (repeat (first|exact bR _ _|assumption|apply bN|apply bA|apply bD))
  have p0 : W1.heap[w.heap.size]? = some (.cells #[.int .i64 c.wires, .int .i64 c.bits, .slice A c.gates.length kc] 24 (0, 0)) := by rw [← hW1]; exact alloc_old (alloc_old (blk_alloc _ _ _ rfl))
  have p1 : W1.heap[w.heap.size + 1]? = some (.cells #[.int .i64 0, .int .i64 0, .slice none 0 0] 24 (0, 0)) := by rw [← hW1]; exact alloc_old (blk_alloc _ _ _ (by simp))
  have p2 : W1.heap[w.heap.size + 2]? = some (.cells #[.int .i64 c.wires, .int .i64 c.bits, .slice none 0 0] 24 (0, 0)) := by rw [← hW1]; exact blk_alloc _ _ _ (by simp)
  have hz1 : w.heap.size + 3 ≤ W1.heap.size := by rw [← hW1]; simp
  rw [hW1]
  clear hW1
  obtain ⟨k0, k1, k2, kf⟩ := cells3 p0
  have HS := Lib.hid (show ∃ v, W1.heap[w.heap.size + 2]? = some (.cells #[.int .i64 c.wires, .int .i64 c.bits, v] 24 (0, 0)) ∧ W1.heap[w.heap.size + 1]? = some (.cells #[.int .i64 0, .int .i64 0, .slice none 0 0] 24 (0, 0)) ∧ Own 3 55 (w.heap.size + 3) W1 v (c.gates.take 0) ∧ Below w.heap.size w W1 ∧ w.heap.size + 3 ≤ W1.heap.size from ⟨_, p2, p1, ⟨[], by simp, List.Pairwise.nil, App.nil _ _ _ _ _⟩, hb1, hz1⟩)
  clear p0 p1 p2 hb1 hz1
  go_wp2
  go_loopw [5, 14] (fun _ i wr => ∃ k : Nat, k ≤ c.gates.length ∧ i = .int .i64 k ∧ Hid (∃ v, wr.heap[w.heap.size + 2]? = some (.cells #[.int .i64 c.wires, .int .i64 c.bits, v] 24 (0, 0)) ∧ wr.heap[w.heap.size + 1]? = some (.cells #[.int .i64 0, .int .i64 0, .slice none 0 0] 24 (0, 0)) ∧ Own 3 55 (w.heap.size + 3) wr v (c.gates.take k) ∧ Below w.heap.size w wr ∧ w.heap.size + 3 ≤ wr.heap.size)) (fun _ i _ => c.gates.length - (intOf i).toNat)
  case atStart => exact ⟨0, Nat.zero_le _, rfl, HS⟩
  case round =>
    clear HS k0 k1 k2 kf
    obtain ⟨k, hk, rfl, HI⟩ := hrel
    obtain ⟨v, p2, p1, hown, hB, hz⟩ := HI.out
    by_cases hlt : k < c.gates.length
    · obtain ⟨b, o, B2, c2, rfl, g0, g1, g2, g3, hc2, hr2⟩ := (HR.out.bG hB).gate k hlt
      obtain ⟨g, hg⟩ : ∃ g, c.gates[k] = g := ⟨_, rfl⟩
      rw [hg] at g0 g1 g2 g3 hc2 hr2
      have hwg : g.wires.length ≤ 1000000 := HW.out g (hg ▸ List.getElem_mem hlt)
      obtain ⟨ps, hps, hd, ho⟩ := hown
      obtain rfl : ps.length = k := by have := congrArg List.length hps; simp at this; omega
      obtain ⟨A5, c5, rfl, hc5⟩ := ho.form
      have HG := Lib.hid (And.intro hg (And.intro hps hd))
      have HA := Lib.hid (And.intro ho (And.intro p1 hB))
      have HRI := Lib.hid hr2
      have hold := olds wr
      have lb := cell_lt g0
      have lp2 := blk_lt p2
      clear hg hps hd ho hr2 HI p1 hB
      go_upto_region 5 with fail
      obtain ⟨w1, hw1⟩ : ∃ w1, wr.alloc (.cells #[.int .i64 g.kind, .slice B2 g.wires.length c2, .int .i64 g.bit, .int .i64 g.cif] 55) = w1 := ⟨_, rfl⟩
      have hb1 : Below wr.heap.size wr w1 := by rw [← hw1]; (repeat (first|exact bR _ _|assumption|apply bN|apply bA|apply bD))
      have hz1 : w1.heap.size = wr.heap.size + 1 := by rw [← hw1]; simp
      have q0 : w1.heap[wr.heap.size]? = some (.cells #[.int .i64 g.kind, .slice B2 g.wires.length c2, .int .i64 g.bit, .int .i64 g.cif] 55 (0, 0)) := by rw [← hw1]; exact blk_alloc _ _ _ rfl
      rw [hw1]
      clear hw1 hold g0 g1 g2 g3 lb
      replace p2 := blk2 hb1 p2
      obtain ⟨k0, k1, k2, k3, kf⟩ := cells4 q0
      obtain ⟨t0, t1, t2, tf⟩ := cells3 p2
      have hlq := blk_lt q0
      have lp2' := blk_lt p2
      have HZ := Lib.hid (And.intro hb1 (And.intro hz1 (And.intro p2 q0)))
      have hz1' : wr.heap.size + 1 ≤ w1.heap.size := by omega
      clear hb1 hz1 p2 q0
      go_wp2
      refine wp_region_sg (by kernel_rfl) [0, 1, 2, 3, 4, 5, 7, 8, 9, 10, 6, 11, 12, 13, 14, 15] (by kernel_rfl) (by kernel_rfl) (by kernel_rfl) ?_
      refine SG.p (v := ?v1_5_0) rfl rfl rfl (fun W => ?h1_5_0) ?r1_5_0
      case h1_5_0 => (first|(go_simp;done)|(go_simp;with_reducible rfl))
      simp only [Act.put, pA, pB, pC]
      refine SG.l (v := ?v1_5_1) rfl rfl rfl ?h1_5_1 ?r1_5_1
      case h1_5_1 => (first|(go_simp;done)|(go_simp;with_reducible rfl))
      simp only [Act.put, pA, pB, pC]
      refine SG.p (v := ?v1_5_2) rfl rfl rfl (fun W => ?h1_5_2) ?r1_5_2
      case h1_5_2 => (first|(go_simp;done)|(go_simp;with_reducible rfl))
      simp only [Act.put, pA, pB, pC]
      refine SG.l (v := ?v1_5_3) rfl rfl rfl ?h1_5_3 ?r1_5_3
      case h1_5_3 => (first|(go_simp;done)|(go_simp;with_reducible rfl))
      simp only [Act.put, pA, pB, pC]
      refine SG.p (v := ?v1_5_4) rfl rfl rfl (fun W => ?h1_5_4) ?r1_5_4
      case h1_5_4 => (first|(go_simp;done)|(go_simp;with_reducible rfl))
      simp only [Act.put, pA, pB, pC]
      refine SG.l (v := ?v1_5_5) rfl rfl rfl ?h1_5_5 ?r1_5_5
      case h1_5_5 => (first|(go_simp;done)|(go_simp;with_reducible rfl))
      simp only [Act.put, pA, pB, pC]
      refine SG.p (v := ?v1_5_7) rfl rfl rfl (fun W => ?h1_5_7) ?r1_5_7
      case h1_5_7 => (first|(go_simp;done)|(go_simp;with_reducible rfl))
      simp only [Act.put, pA, pB, pC]
      refine SG.l (v := ?v1_5_8) rfl rfl rfl ?h1_5_8 ?r1_5_8
      case h1_5_8 => (first|(go_simp;done)|(go_simp;with_reducible rfl))
      simp only [Act.put, pA, pB, pC]
      refine SG.p (v := ?v1_5_9) rfl rfl rfl (fun W => ?h1_5_9) ?r1_5_9
      case h1_5_9 => (first|(go_simp;done)|(go_simp;with_reducible rfl))
      simp only [Act.put, pA, pB, pC]
      refine SG.l (v := ?v1_5_10) rfl rfl rfl ?h1_5_10 ?r1_5_10
      case h1_5_10 => (first|(go_simp;done)|(go_simp;with_reducible rfl))
      simp only [Act.put, pA, pB, pC]
      refine SG.c rfl rfl rfl (by first|(go_simp;done)|(go_simp;with_reducible rfl)|(go_simp;exact ⟨⟨rfl, rfl⟩, rfl⟩)) ?_
      refine (Clone_any B2 c2 g.wires w1.drew (HRI.out.bI (by have := HZ.out.1; (repeat (first|exact bR _ _|assumption|apply bN|apply bA|apply bD)))) hwg).mono ?_
      rintro e w2 ⟨v1, rfl, hv1, hb2⟩
      obtain ⟨A3, c3, rfl, hc3⟩ := hv1.form
      have hb2' : Below w1.heap.size w1 w2 := Below.trans (b := _) (by (repeat (first|exact bR _ _|assumption|apply bN|apply bA|apply bD))) hb2
      have p2 := blk2 hb2' HZ.out.2.2.1
      have q0 := blk2 hb2' HZ.out.2.2.2
      clear k0 k1 k2 k3 kf t0 t1 t2 tf
      obtain ⟨k0, k1, k2, k3, kf⟩ := cells4 q0
      obtain ⟨t0, t1, t2, tf⟩ := cells3 p2
      have hs2 := hb2'.size
      have HB2 := Lib.hid (And.intro hv1 (And.intro (HZ.out.1.trans (hb2'.mono HZ.out.1.size)) (And.intro p2 q0)))
      have HD := Lib.hid (HG.out.2.2.new (g := g) HA.out.1 hv1 (by simp; omega))
      have hlp2 := blk_lt p2
      have hlq2 := blk_lt q0
      have hold2 := olds w2
      clear hv1 hb2 hb2' p2 q0
      refine ⟨_, rfl, ?_, ?_⟩
      · exact ⟨(fun _ => ⟨_, drop_at rfl, by (first|(go_simp;done)|(go_simp;with_reducible rfl))⟩), (fun _ => ⟨_, drop_at rfl, by (first|(go_simp;done)|(go_simp;with_reducible rfl))⟩), (nw (by kernel_rfl)), (fun _ => ⟨_, drop_at rfl, by (first|(go_simp;done)|(go_simp;with_reducible rfl))⟩), (fun _ => ⟨_, drop_at rfl, by (first|(go_simp;done)|(go_simp;with_reducible rfl))⟩), trivial⟩
      simp only [Act.put, pA, pB, pC]
      refine SG.p (v := ?v1_5_11) rfl rfl rfl (fun W => ?h1_5_11) ?r1_5_11
      case h1_5_11 => (first|(go_simp;done)|(go_simp;with_reducible rfl))
      simp only [Act.put, pA, pB, pC]
      refine SG.v (v := ?v1_5_12) (w' := ?w1_5_12) rfl rfl rfl ?h1_5_12 ?s1_5_12 ?r1_5_12
      case h1_5_12 => (first|(go_simp;done)|(go_simp;with_reducible rfl)|(go_simp;constructor<;>with_reducible rfl))
      case s1_5_12 => exact ⟨(fun _ => ⟨_, drop_at rfl, by (first|(go_simp;done)|(go_simp;with_reducible rfl))⟩), (fun _ => ⟨_, drop_at rfl, by (first|(go_simp;done)|(go_simp;with_reducible rfl))⟩), (fun _ => ⟨_, drop_at rfl, by (first|(go_simp;done)|(go_simp;with_reducible rfl))⟩), (fun _ => ⟨_, drop_at rfl, by (first|(go_simp;done)|(go_simp;with_reducible rfl))⟩), (fun _ => ⟨_, drop_at rfl, by (first|(go_simp;done)|(go_simp;with_reducible rfl))⟩), trivial⟩
      simp only [Act.put, pA, pB, pC]
      refine SG.app (E := EGv 3 (w.heap.size + 3)) (W := w2) 55 4 (w.heap.size + 3) rfl rfl _ _ 22 (.agg #[.int .i64 0, .slice none 0 0, .int .i64 0, .int .i64 0]) 48 rfl Tryz.underlying22 (by kernel_rfl) rfl (by decide) (by decide) (.slice A5 ps.length c5) ps (g, .slice A3 g.wires.length c3) [.int .i64 g.kind, .slice A3 g.wires.length c3, .int .i64 g.bit, .int .i64 g.cif] rfl rfl rfl (by simp [Value.oneCell']) ⟨rfl, HB2.out.1.imp (by simp; omega) (fun _ _ h => h)⟩ (HA.out.1.below (EGv.stays _ _) HB2.out.2.1) (by omega) (by omega) (fun _ _ _ h1 h2 _ _ h => h.other h1 h2 (by decide)) ?_
      intro v5 w5 ho5 hg5
      obtain ⟨A7, c7, hv7, hc7⟩ := ho5.form
      rw [List.length_append, List.length_singleton] at hv7 hc7
      subst hv7
      have p2 := (hg5.block (w.heap.size + 2) (by omega) (fun e => by
        rcases (HA.out.1.below (EGv.stays _ _) HB2.out.2.1).block with h | ⟨k', h, h', _⟩
        · rw [h] at e; cases e
        · rw [h] at e; cases e; omega)).trans HB2.out.2.2.1
      have q0 := (hg5.block wr.heap.size (by omega) (fun e => by
        rcases HA.out.1.block with h | ⟨k', h, _, h'⟩
        · rw [h] at e; cases e
        · rw [h] at e; cases e; omega)).trans HB2.out.2.2.2
      clear k0 k1 k2 k3 kf t0 t1 t2 tf
      obtain ⟨k0, k1, k2, k3, kf⟩ := cells4 q0
      obtain ⟨t0, t1, t2, tf⟩ := cells3 p2
      have HO5 := Lib.hid (And.intro ho5 (And.intro hg5 p2))
      clear ho5 hg5 p2 q0
      refine ⟨?_, ?_⟩
      · exact ⟨(fun _ => ⟨_, drop_at rfl, by (first|(go_simp;done)|(go_simp;with_reducible rfl))⟩), (fun _ => ⟨_, drop_at rfl, by (first|(go_simp;done)|(go_simp;with_reducible rfl))⟩), (fun _ => ⟨_, drop_at rfl, by (first|(go_simp;done)|(go_simp;with_reducible rfl))⟩), (fun _ => ⟨_, drop_at rfl, by (first|(go_simp;done)|(go_simp;with_reducible rfl))⟩), (nw (by kernel_rfl)), trivial⟩
      simp only [Act.put, pA, pB, pC]
      refine SG.p (v := ?v1_5_14) rfl rfl rfl (fun W => ?h1_5_14) ?r1_5_14
      case h1_5_14 => (first|(go_simp;done)|(go_simp;with_reducible rfl))
      simp only [Act.put, pA, pB, pC]
      refine SG.k (w' := ?w1_5_15) rfl rfl rfl ?h1_5_15 ?s1_5_15 ?r1_5_15
      case h1_5_15 => (first|(go_simp;done)|(go_simp;with_reducible rfl))
      case s1_5_15 => exact ⟨(nw (by kernel_rfl)), (nw (by kernel_rfl)), (nw (by kernel_rfl)), (nw (by kernel_rfl)), (nw (by kernel_rfl)), trivial⟩
      simp only [Act.put, pA, pB, pC]
      simp only [SG]
      go_wp2
      go_roundw
      case rel =>
        obtain ⟨h1, h2, h3⟩ := HO5.out
        refine ⟨ps.length + 1, by omega, by go_num, Lib.hid ⟨_, heap_setCell_same _ _ 2 _ _ _ h3, ?_, ?_, ?_, ?_⟩⟩
        · rw [heap_setCell_other _ _ _ _ (by simp)]
          refine (h2.block (w.heap.size + 1) (by omega) (fun e => ?_)).trans (blk2 HB2.out.2.1 HA.out.2.1)
          rcases HA.out.1.block with h | ⟨k', h, h', _⟩
          · rw [h] at e; cases e
          · rw [h] at e; cases e; omega
        · exact Own.setCell ⟨_, by rw [List.map_append, HG.out.2.1, List.take_succ_eq_append_getElem hlt, HG.out.1]; rfl, HD.out, h1⟩ (by simp) _
        · exact ((HA.out.1.below (EGv.stays _ _) HB2.out.2.1).grows h2 (HA.out.2.2.trans (HB2.out.2.1.mono HA.out.2.2.size)) (by omega) (by omega)).setCell (by simp; omega) _
        · have := h2.size; simp; omega
      case measure => simp [intOf]; omega
    · have HO3 := Lib.hid (show Own 3 55 (w.heap.size + 3) wr v c.gates from by rwa [List.take_of_length_le (by omega)] at hown)
      obtain ⟨A5, c5, rfl, hc5⟩ := HO3.out.form'
      obtain ⟨t0, t1, t2, tf⟩ := cells3 p2
      obtain ⟨k0, k1, k2, kf⟩ := cells3 p1
      have HP := Lib.hid (And.intro p1 hB)
      clear p1 p2 hB hown HI
      go_wp2
      refine bodyPost_ret (results_cell_row rfl _ _ (w.heap.size + 1) 24 _ _ _ rfl (set3 HP.out.1) Tryz.underlying24 rfl (by kernel_rfl)) rfl ⟨_, rfl, ?_, ((HP.out.2.setCell (by first|(simp;done)|(simp;omega)|omega) _).setCell (by first|(simp;done)|(simp;omega)|omega) _).setCell (by first|(simp;done)|(simp;omega)|omega) _⟩
      exact (((HO3.out.setCell (by simp) _).setCell (by simp) _).setCell (by simp) _).weak (by omega)
theorem grown_set (w : World) (a : Addr) (u : Value) : w.grownBy (w.setCell a u) (some a.block) :=
  ⟨rfl, rfl, rfl, by simp, fun k _ hk => heap_setCell_other w a k u (fun e => hk (by rw [e]))⟩
theorem App.setT {α : Type} {E : World → α → List Value → Prop} {T sz B : Nat} {w : World} {v : Value} {xs : List α} (h : App E T sz B w v xs) {a : Addr} {u : Value} {row : Array Value} {T' : TypeId} {fz : Nat × Nat} (hb : w.heap[a.block]? = some (.cells row T' fz)) (hT : T ≠ T')
    (hE : ∀ x cs, E w x cs → E (w.setCell a u) x cs) : App E T sz B (w.setCell a u) v xs := by
  refine h.kept (grown_set w a u) ?_ (Nat.le_refl _) hE
  obtain ⟨cs, ⟨_, h1 | ⟨g, cap, cur, rfl, _, hg, _⟩⟩, _⟩ := h
  · exact .inl (by rw [h1.1]; rfl)
  · refine .inr fun e => hT ?_
    have : g = a.block := by simpa [Value.ownBlock] using e
    subst this
    rw [hg] at hb
    injection hb with hb
    injection hb
theorem App.setNe {α : Type} {E : World → α → List Value → Prop} {T sz B : Nat} {w : World} {v : Value} {xs : List α} (h : App E T sz B w v xs) {a : Addr} {u : Value} (hn : v.ownBlock ≠ some a.block)
    (hE : ∀ x cs, E w x cs → E (w.setCell a u) x cs) : App E T sz B (w.setCell a u) v xs :=
  h.kept (grown_set w a u) (.inr hn) (Nat.le_refl _) hE
theorem App.fresh {α : Type} {E : World → α → List Value → Prop} {T sz B : Nat} {w : World} {v : Value} {xs : List α} (h : App E T sz B w v xs) : v.ownBlock ≠ some w.heap.size := fun e => by
  rcases h.block with hb | ⟨k, hk, _, hlt⟩
  · rw [e] at hb; cases hb
  · rw [e] at hk; cases hk; omega
theorem Own.setT {ti tg B : Nat} {W : World} {v : Value} {gs : List G} (h : Own ti tg B W v gs) {a : Addr} {u : Value} {row : Array Value} {T' : TypeId} {fz : Nat × Nat} (hb : W.heap[a.block]? = some (.cells row T' fz)) (h1 : ti ≠ T') (h2 : tg ≠ T') : Own ti tg B (W.setCell a u) v gs := by
  obtain ⟨ps, e1, e2, e3⟩ := h
  exact ⟨ps, e1, e2, e3.setT hb h2 fun x cs ⟨c1, c2⟩ => ⟨c1, c2.setT hb h1 fun _ _ h => h⟩⟩
theorem Own.setT3 {ti tg B : Nat} {W : World} {v : Value} {gs : List G} (h : Own ti tg B W v gs) {b : Nat} {x0 x1 x2 u0 u1 u2 : Value} {T' : TypeId} (hb : W.heap[b]? = some (.cells #[x0, x1, x2] T' (0, 0))) (h1 : ti ≠ T') (h2 : tg ≠ T') :
    Own ti tg B (((W.setCell ⟨b, 0, none⟩ u0).setCell ⟨b, 1, none⟩ u1).setCell ⟨b, 2, none⟩ u2) v gs :=
  ((h.setT hb h1 h2).setT (heap_setCell_same _ _ 0 _ _ _ hb) h1 h2).setT (heap_setCell_same _ _ 1 _ _ _ (heap_setCell_same _ _ 0 _ _ _ hb)) h1 h2
end Go.Proofs.YtfommmijojfdbaaGreatDoor
