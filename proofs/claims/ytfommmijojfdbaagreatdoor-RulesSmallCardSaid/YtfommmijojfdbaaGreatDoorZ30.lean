/- Part 31 of the proof that 'spoondriftlaw19.RulesApplies' holds for every input; it has no condition beyond the statement's own. -/
import Derived.Test.YtfommmijojfdbaaGreatDoorZ28
import Derived.Test.YtfommmijojfdbaaGreatDoorZ10
import Derived.Test.YtfommmijojfdbaaGreatDoorZ14
set_option linter.all false
namespace Go.Proofs.YtfommmijojfdbaaGreatDoor
open Go.RowKit
def Lax (T : TypeId) : Prop := T = 27 ∨ T = 30 ∨ T = 24
def ex1 (nb b : Nat) (T : TypeId) : Prop := Lax T ∨ (T = 4 ∧ b < nb)
def ex2 (_ : Nat) (T : TypeId) : Prop := Lax T ∨ T = 4
def Keep (ex : Nat → TypeId → Prop) (n0 : Nat) (W W' : World) : Prop :=
  Below n0 W W' ∧ ∀ b row T fz, W.heap[b]? = some (.cells row T fz) → ¬ ex b T → W'.heap[b]? = some (.cells row T fz)
variable {ex ex' : Nat → TypeId → Prop} {n0 nb : Nat} {W W' W1 W2 : World}
theorem Keep.refl (W : World) : Keep ex n0 W W := ⟨Below.refl _ _, fun _ _ _ _ h _ => h⟩
theorem Keep.trans (h : Keep ex n0 W W1) (k : Keep ex n0 W1 W2) : Keep ex n0 W W2 := ⟨h.1.trans k.1, fun b row T fz hb he => k.2 b row T fz (h.2 b row T fz hb he) he⟩
theorem Keep.lax (h : Keep ex n0 W W') (he : ∀ b T, ex b T → ex' b T) : Keep ex' n0 W W' := ⟨h.1, fun b row T fz hb hn => h.2 b row T fz hb fun e => hn (he b T e)⟩
theorem Keep.two (h : Keep (ex1 nb) n0 W W') : Keep ex2 n0 W W' := h.lax fun _ _ e => e.imp id And.left
theorem Keep.size (h : Keep ex n0 W W') : W.heap.size ≤ W'.heap.size := h.1.size
theorem lt_of_heap {b : Nat} {o : Obj} (h : W.heap[b]? = some o) : b < W.heap.size := (Array.getElem?_eq_some_iff.1 h).1
theorem Keep.of_below (h : Below W.heap.size W W') (hn : n0 ≤ W.heap.size) : Keep ex n0 W W' := ⟨h.mono hn, fun b _ _ _ hb _ => (h.block b (lt_of_heap hb)).trans hb⟩
theorem Keep.grown {row : Option Nat} (hg : W.grownBy W' row) (hn : n0 ≤ W.heap.size) (hr : ∀ r, row = some r → n0 ≤ r ∧ ∀ cs T fz, W.heap[r]? = some (.cells cs T fz) → ex r T) : Keep ex n0 W W' :=
  ⟨(Below.refl n0 W).grown hg hn fun r e => (hr r e).1, fun b cs T fz hb he => (hg.block b (lt_of_heap hb) fun e => he ((hr b e.symm).2 cs T fz hb)).trans hb⟩
theorem Keep.put {l : Nat} {o : Obj} (o' : Obj) (hl : W.heap[l]? = some o) (ho : o.isCells = false) (hn : n0 ≤ l) : Keep ex n0 W (W.putObj l o') :=
  Keep.grown (row := some l) (grownBy_putObj' W l o') (by have := lt_of_heap hl; omega) fun r e => by
    cases e
    refine ⟨hn, fun cs T fz h => ?_⟩
    rw [hl] at h
    cases h
    cases ho
theorem Keep.set {b j : Nat} {cs : Array Value} {T : TypeId} {fz : Nat × Nat} (u : Value) (hb : W.heap[b]? = some (.cells cs T fz)) (he : ex b T) (hn : n0 ≤ b) : Keep ex n0 W (W.setCell ⟨b, j, none⟩ u) :=
  Keep.grown (row := some b) (grown_set W ⟨b, j, none⟩ u) (by have := lt_of_heap hb; omega) fun r e => by
    cases e
    refine ⟨hn, fun cs' T' fz' h => ?_⟩
    rw [hb] at h
    injection h with h
    injection h with _ h
    exact h ▸ he
theorem Keep.alloc (o : Obj) (hn : n0 ≤ W.heap.size) : Keep ex n0 W (W.alloc o) := Keep.of_below (below_alloc (Below.refl _ _) o) hn
theorem Keep.app {α : Type} {E : World → α → List Value → Prop} {T sz B : Nat} {v : Value} {xs : List α} (h : App E T sz B W v xs) (hk : Keep ex n0 W W') (hT : ∀ b, ¬ ex b T) (hE : ∀ x cs, E W x cs → E W' x cs) : App E T sz B W' v xs := by
  obtain ⟨cs, ho, hr⟩ := h
  refine ⟨cs, own_heap ho fun k e => ?_, hr.imp hE⟩
  obtain ⟨row, hc⟩ := owns_cells ho e
  rw [hc]
  exact hk.2 _ _ _ _ hc (hT k)
theorem Keep.own {ti tg B : Nat} {v : Value} {gs : List G} (h : Own ti tg B W v gs) (hk : Keep ex n0 W W') (h1 : ∀ b, ¬ ex b ti) (h2 : ∀ b, ¬ ex b tg) : Own ti tg B W' v gs := by
  obtain ⟨ps, e1, e2, e3⟩ := h
  exact ⟨ps, e1, e2, Keep.app e3 hk h2 fun x cs ⟨c1, c2⟩ => ⟨c1, Keep.app c2 hk h1 fun _ _ h => h⟩⟩
theorem ex2_int (b : Nat) : ¬ ex2 b 3 := by unfold ex2 Lax; decide
theorem ex2_gate (b : Nat) : ¬ ex2 b 55 := by unfold ex2 Lax; decide
theorem ex1_of (nb b : Nat) {T : TypeId} (h : ¬ Lax T) (h' : T ≠ 4) : ¬ ex1 nb b T := fun e => e.elim h fun e => h' e.1
theorem Own.keep {B : Nat} {v : Value} {gs : List G} (h : Own 3 55 B W v gs) (hk : Keep ex2 n0 W W') : Own 3 55 B W' v gs := Keep.own h hk ex2_int ex2_gate
theorem from_good (i : Nat) (hi : i < 44) (back : Bool) : ∀ g ∈ fromG i back, goodG 3 g := by
  have hw := (rule_ok i hi).2.2
  intro g hg
  have hg' : g ∈ toG i (!back) := by cases back <;> simpa [fromG, toG] using hg
  obtain ⟨h1, h2, h3, h4, h5⟩ := rule_good i hi _ g hg'
  exact ⟨h1, h2, h3, fun n hn => ⟨(h4 n hn).1, by have := (h4 n hn).2; omega⟩, h5⟩
theorem bindW_ok {c : C} : ∀ (xs ys : List Int) (b b' : List Int), (∀ x ∈ xs, 0 ≤ x ∧ x < 3) → (∀ y ∈ ys, 0 ≤ y ∧ y < c.wires) → BOk c b → bindW b xs ys = some b' → BOk c b'
  | [], ys, b, b', _, _, h, e => by unfold bindW at e; cases e; exact h
  | _ :: _, [], b, b', _, _, h, e => by unfold bindW at e; cases e; exact h
  | x :: xs, y :: ys, b, b', hx, hy, h, e => by
    unfold bindW at e
    have hx' := fun z hz => hx z (List.mem_cons_of_mem _ hz)
    have hy' := fun z hz => hy z (List.mem_cons_of_mem _ hz)
    split at e
    · rename_i hc
      exact bindW_ok xs ys _ b' hx' hy' (h.set hc.1 hc.2 (hy y List.mem_cons_self).1 (hy y List.mem_cons_self).2) e
    · split at e
      · cases e
      · exact bindW_ok xs ys _ b' hx' hy' h e
theorem bindG_ok {c : C} : ∀ (l m : List G) (b b' : List Int), (∀ g ∈ l, goodG 3 g) → (∀ g ∈ m, goodG c.wires g) → BOk c b → bindG b l m = some b' → BOk c b'
  | [], m, b, b', _, _, h, e => by unfold bindG at e; cases e; exact h
  | _ :: _, [], b, b', _, _, h, e => by unfold bindG at e; cases e; exact h
  | g :: l, g' :: m, b, b', hl, hm, h, e => by
    unfold bindG at e
    split at e
    · cases e
    · split at e
      · rename_i b1 h1
        have hb1 := bindW_ok g.wires g'.wires b b1 (hl g List.mem_cons_self).2.2.2.1 (hm g' List.mem_cons_self).2.2.2.1 h h1
        exact bindG_ok l m b1 b' (fun z hz => hl z (List.mem_cons_of_mem _ hz)) (fun z hz => hm z (List.mem_cons_of_mem _ hz)) hb1 e
      · cases e
theorem binds_ok {c : C} {i : Nat} {back : Bool} {at_ : Nat} {b : List Int} (hi : i < 44) (hG : Good c) (h : bindsR c (fromG i back) at_ = some b) : BOk c b := by
  unfold bindsR at h
  split at h
  · cases h
  · obtain ⟨g1, g2, g3⟩ := good_iff.1 hG
    exact bindG_ok _ _ _ _ (from_good i hi back) (fun g hg => g3 g (List.mem_of_mem_drop hg)) (BOk.unb (by omega)) h
theorem chooseL_good {c : C} {i : Nat} {back : Bool} {at_ : Nat} (hi : i < 44) (hf : fitB i back = true) (hG : Good c) (hat : at_ ≤ c.gates.length) : ∀ (f k : Nat) (b : List Int), BOk c b → k + f = (ruleW i).toNat → (∀ x ∈ b.take k, 0 ≤ x) →
    ∀ x ∈ chooseL c i back at_ f k b, moveE c x.1 = 0 ∧ x.1.rule = i ∧ x.1.back = back ∧ x.1.at_ = at_ ∧ (∃ p, stepR c x.1 = (0, x.2, p)) ∧ x.1.wires.length ≤ 3
  | 0, k, b, hb, hk, hp, x, hx => by
    unfold chooseL at hx
    split at hx
    · rename_i h0
      rw [List.mem_singleton] at hx
      subst hx
      have hkk : k = (ruleW i).toNat := by omega
      subst hkk
      exact ⟨moveE_chosen hi hf hat hb hp, rfl, rfl, rfl, ⟨_, by rw [← h0]⟩, by have := hb.len; simp; omega⟩
    · cases hx
  | f + 1, k, b, hb, hk, hp, x, hx => by
    have hlen := hb.len
    have hw := (rule_ok i hi).2.2
    have htake : ∀ (b' : List Int), b'.length = 3 → (∀ x ∈ b'.take k, 0 ≤ x) → 0 ≤ b'.getD k 0 → ∀ x ∈ b'.take (k + 1), 0 ≤ x := by
      intro b' hl hq h0 y hy
      rw [List.take_add_one, List.mem_append] at hy
      rcases hy with hy | hy
      · exact hq y hy
      · rw [List.getD_eq_getElem?_getD] at h0
        cases he : b'[k]? with
        | none => rw [he] at hy; cases hy
        | some z => rw [he] at hy h0; simp at hy h0; omega
    unfold chooseL at hx
    split at hx
    · rename_i h0
      exact chooseL_good hi hf hG hat f (k + 1) b hb (by omega) (htake b hlen hp h0) x hx
    · rename_i h0
      obtain ⟨w, _, hx⟩ := List.mem_flatMap.1 hx
      rename_i hw'
      split at hx
      · cases hx
      · rename_i hm
        have hwr := List.mem_range.1 hw'
        have hb' := hb.set (k := k) (by omega) hm (by omega) (by omega)
        refine chooseL_good hi hf hG hat f (k + 1) _ hb' (by omega) (htake _ hb'.len ?_ ?_) x hx
        · intro y hy
          rw [List.take_set_of_le (Nat.le_refl k)] at hy
          exact hp y hy
        · rw [List.getD_eq_getElem?_getD, List.getElem?_set]
          simp
          split
          · simp
          · simp
theorem stepsL_good {c : C} {i : Nat} {back : Bool} (hi : i < 44) (hf : fitB i back = true) (hG : Good c) : ∀ x ∈ stepsL c i back, moveE c x.1 = 0 ∧ x.1.rule = i ∧ x.1.back = back ∧ (∃ p, stepR c x.1 = (0, x.2, p)) ∧ x.1.wires.length ≤ 3 ∧ Good x.2 := by
  intro x hx
  unfold stepsL at hx
  obtain ⟨at_, ha, hx⟩ := List.mem_flatMap.1 hx
  have hat : at_ ≤ c.gates.length := by have := List.mem_range.1 ha; omega
  unfold atL at hx
  split at hx
  · cases hx
  · rename_i b hb
    split at hx
    · cases hx
    · obtain ⟨h1, h2, h3, h4, ⟨p, h5⟩, h6⟩ := chooseL_good hi hf hG hat _ 0 b (binds_ok hi hG hb) (by omega) (by simp) x hx
      exact ⟨h1, h2, h3, ⟨p, h5⟩, h6, (step_good hG (show applyR c x.1 = (0, x.2, p) by unfold applyR; rw [if_pos h1, h5])).1⟩
end Go.Proofs.YtfommmijojfdbaaGreatDoor
