/- Part 13 of the proof that 'spoondriftlaw19.RulesApplies' holds for every input; it has no condition beyond the statement's own. -/
import Derived.Test.YtfommmijojfdbaaGreatDoorZ09
import Derived.Deep.RegionHeld3
import Derived.Deep.RegionWith
import Derived.Laws.EntriesVeiled
set_option linter.all false
namespace Go.Proofs.YtfommmijojfdbaaGreatDoor
open Go.RowKit
def rowN (i : Nat) : List UInt8 × List UInt8 × Int × Int := rowsT.getD i ([], [], 0, 0)
theorem cases43 (i : Nat) (hi : i < 43) : i = 0 ∨ i = 1 ∨ i = 2 ∨ i = 3 ∨ i = 4 ∨ i = 5 ∨ i = 6 ∨ i = 7 ∨ i = 8 ∨ i = 9 ∨ i = 10 ∨ i = 11 ∨ i = 12 ∨ i = 13 ∨ i = 14 ∨ i = 15 ∨ i = 16 ∨ i = 17 ∨ i = 18 ∨ i = 19 ∨ i = 20 ∨ i = 21 ∨ i = 22 ∨ i = 23 ∨ i = 24 ∨ i = 25 ∨ i = 26 ∨ i = 27 ∨ i = 28 ∨ i = 29 ∨ i = 30 ∨ i = 31 ∨ i = 32 ∨ i = 33 ∨ i = 34 ∨ i = 35 ∨ i = 36 ∨ i = 37 ∨ i = 38 ∨ i = 39 ∨ i = 40 ∨ i = 41 ∨ i = 42 := by omega
theorem index_rows (i : Nat) (hi : i < 43) (w : World) : (Instr.index 149 (.agg rowsC) (.int .i64 i)).run Tryz.prog w = .ok (.agg (rowC (rowN i)).toArray) w := by
  rcases cases43 i hi with rfl | rfl | rfl | rfl | rfl | rfl | rfl | rfl | rfl | rfl | rfl | rfl | rfl | rfl | rfl | rfl | rfl | rfl | rfl | rfl | rfl | rfl | rfl | rfl | rfl | rfl | rfl | rfl | rfl | rfl | rfl | rfl | rfl | rfl | rfl | rfl | rfl | rfl | rfl | rfl | rfl | rfl | rfl
  all_goals kernel_rfl
def goodW (l : List UInt8) : Bool := !l.isEmpty && decide (l.length ≤ 1000) && l.tail.all fun b => decide (48 ≤ b.toNat) && decide (b.toNat < 128)
def goodT (l : List UInt8) : Bool := decide (l.length < 100000) && (l.all fun b => decide (b.toNat < 128)) && (Lib.fields l).all goodW && decide ((Lib.fields l).length ≤ 100000)
theorem goodW_of {l : List UInt8} (h : goodW l = true) : GoodWord l := by
  simp only [goodW, Bool.and_eq_true, decide_eq_true_eq, Bool.not_eq_true', List.all_eq_true] at h
  exact ⟨by rintro rfl; simp at h, h.1.2, h.2⟩
theorem rows_good (i : Nat) (hi : i < 43) : goodT (rowN i).1 = true ∧ goodT (rowN i).2.1 = true := by
  rcases cases43 i hi with rfl | rfl | rfl | rfl | rfl | rfl | rfl | rfl | rfl | rfl | rfl | rfl | rfl | rfl | rfl | rfl | rfl | rfl | rfl | rfl | rfl | rfl | rfl | rfl | rfl | rfl | rfl | rfl | rfl | rfl | rfl | rfl | rfl | rfl | rfl | rfl | rfl | rfl | rfl | rfl | rfl | rfl | rfl
  all_goals exact ⟨by decide, by decide⟩
def ruleL (i : Nat) : List G := sideG (rowN i).1
def ruleR (i : Nat) : List G := sideG (rowN i).2.1
def ruleW (i : Nat) : Int := (rowN i).2.2.1
def ruleP (i : Nat) : Int := (rowN i).2.2.2
theorem side_row (l : List UInt8) (h : goodT l = true) (w : World) (HT : Hid (Laid w)) :
    Calls Tryz.prog 112 #[.string ⟨l.toArray⟩] w fun e w' => ∃ v, e = .returned v ∧ Own 3 55 w.heap.size w' v (sideG l) ∧ Below w.heap.size w w' := by
  simp only [goodT, Bool.and_eq_true, decide_eq_true_eq, List.all_eq_true] at h
  refine side_any ⟨l.toArray⟩ w HT (by simpa [ByteArray.size] using h.1.1.1) (fun j b hb => ?_) (fun x hx => goodW_of (h.1.2 x hx)) h.2
  exact h.1.1.2 b (List.mem_of_getElem? hb)
@[irreducible] def oldv (W : World) (b k : Nat) : Value := (W.cell? ⟨b, k, none⟩).getD undef
theorem oldv_of {W : World} {b k : Nat} (h : (W.cell? ⟨b, k, none⟩).isSome = true) : W.cell? ⟨b, k, none⟩ = some (oldv W b k) := by
  unfold oldv
  cases hh : W.cell? ⟨b, k, none⟩ with
  | none => rw [hh] at h; cases h
  | some v => rfl
theorem some_set {W : World} {b k j : Nat} {u : Value} (h : (W.cell? ⟨b, k, none⟩).isSome = true) : ((W.setCell ⟨b, j, none⟩ u).cell? ⟨b, k, none⟩).isSome = true := by
  by_cases hj : j = k
  · subst hj; rw [World.cell?_setCell_same' _ _ _ h]; rfl
  · rw [World.cell?_setCell_other _ _ _ _ (fun e => hj (by injection e))]; exact h
theorem frozen_set {W : World} {a p : Addr} {u : Value} (h : W.frozen? p = false) : (W.setCell a u).frozen? p = false := by rw [World.frozen?_setCell]; exact h
theorem set_ne {W : World} {b c k j : Nat} {u x : Value} (h : b < c) (hc : W.cell? ⟨c, k, none⟩ = some x) : (W.setCell ⟨b, j, none⟩ u).cell? ⟨c, k, none⟩ = some x := by
  rw [World.cell?_setCell_other _ _ _ _ (fun e => by injection e; omega)]; exact hc
theorem set_ne5 {W : World} {b c k : Nat} {u0 u1 u2 u3 u4 x : Value} (h : b < c) (hc : W.cell? ⟨c, k, none⟩ = some x) : (((((W.setCell ⟨b, 0, none⟩ u0).setCell ⟨b, 1, none⟩ u1).setCell ⟨b, 2, none⟩ u2).setCell ⟨b, 3, none⟩ u3).setCell ⟨b, 4, none⟩ u4).cell? ⟨c, k, none⟩ = some x := set_ne h (set_ne h (set_ne h (set_ne h (set_ne h hc))))
theorem some_set5 {W : World} {b k : Nat} {u0 u1 u2 u3 u4 x : Value} (h : W.cell? ⟨b, k, none⟩ = some x) : (((((W.setCell ⟨b, 0, none⟩ u0).setCell ⟨b, 1, none⟩ u1).setCell ⟨b, 2, none⟩ u2).setCell ⟨b, 3, none⟩ u3).setCell ⟨b, 4, none⟩ u4).cell? ⟨b, k, none⟩ = some (oldv (((((W.setCell ⟨b, 0, none⟩ u0).setCell ⟨b, 1, none⟩ u1).setCell ⟨b, 2, none⟩ u2).setCell ⟨b, 3, none⟩ u3).setCell ⟨b, 4, none⟩ u4) b k) :=
  oldv_of (some_set (some_set (some_set (some_set (some_set (by rw [h]; rfl))))))
theorem frozen_set5 {W : World} {b k : Nat} {u0 u1 u2 u3 u4 : Value} (h : W.frozen? ⟨b, k, none⟩ = false) : (((((W.setCell ⟨b, 0, none⟩ u0).setCell ⟨b, 1, none⟩ u1).setCell ⟨b, 2, none⟩ u2).setCell ⟨b, 3, none⟩ u3).setCell ⟨b, 4, none⟩ u4).frozen? ⟨b, k, none⟩ = false := frozen_set (frozen_set (frozen_set (frozen_set (frozen_set h))))
theorem keep5 {W : World} {b c : Nat} {u0 u1 u2 u3 u4 x0 x1 x2 x3 : Value} (h : b < c) (hp : W.cell? ⟨c, 0, none⟩ = some x0 ∧ W.cell? ⟨c, 1, none⟩ = some x1 ∧ W.cell? ⟨c, 2, none⟩ = some x2 ∧ W.cell? ⟨c, 3, none⟩ = some x3 ∧ W.cell? ⟨b, 0, none⟩ = some (oldv W b 0) ∧ W.cell? ⟨b, 1, none⟩ = some (oldv W b 1) ∧ W.cell? ⟨b, 2, none⟩ = some (oldv W b 2) ∧ W.cell? ⟨b, 3, none⟩ = some (oldv W b 3) ∧ W.cell? ⟨b, 4, none⟩ = some (oldv W b 4) ∧ W.frozen? ⟨b, 0, none⟩ = false ∧ W.frozen? ⟨b, 1, none⟩ = false ∧ W.frozen? ⟨b, 2, none⟩ = false ∧ W.frozen? ⟨b, 3, none⟩ = false ∧ W.frozen? ⟨b, 4, none⟩ = false) :
    (((((W.setCell ⟨b, 0, none⟩ u0).setCell ⟨b, 1, none⟩ u1).setCell ⟨b, 2, none⟩ u2).setCell ⟨b, 3, none⟩ u3).setCell ⟨b, 4, none⟩ u4).cell? ⟨c, 0, none⟩ = some x0 ∧ (((((W.setCell ⟨b, 0, none⟩ u0).setCell ⟨b, 1, none⟩ u1).setCell ⟨b, 2, none⟩ u2).setCell ⟨b, 3, none⟩ u3).setCell ⟨b, 4, none⟩ u4).cell? ⟨c, 1, none⟩ = some x1 ∧ (((((W.setCell ⟨b, 0, none⟩ u0).setCell ⟨b, 1, none⟩ u1).setCell ⟨b, 2, none⟩ u2).setCell ⟨b, 3, none⟩ u3).setCell ⟨b, 4, none⟩ u4).cell? ⟨c, 2, none⟩ = some x2 ∧ (((((W.setCell ⟨b, 0, none⟩ u0).setCell ⟨b, 1, none⟩ u1).setCell ⟨b, 2, none⟩ u2).setCell ⟨b, 3, none⟩ u3).setCell ⟨b, 4, none⟩ u4).cell? ⟨c, 3, none⟩ = some x3 ∧ (((((W.setCell ⟨b, 0, none⟩ u0).setCell ⟨b, 1, none⟩ u1).setCell ⟨b, 2, none⟩ u2).setCell ⟨b, 3, none⟩ u3).setCell ⟨b, 4, none⟩ u4).cell? ⟨b, 0, none⟩ = some (oldv (((((W.setCell ⟨b, 0, none⟩ u0).setCell ⟨b, 1, none⟩ u1).setCell ⟨b, 2, none⟩ u2).setCell ⟨b, 3, none⟩ u3).setCell ⟨b, 4, none⟩ u4) b 0) ∧ (((((W.setCell ⟨b, 0, none⟩ u0).setCell ⟨b, 1, none⟩ u1).setCell ⟨b, 2, none⟩ u2).setCell ⟨b, 3, none⟩ u3).setCell ⟨b, 4, none⟩ u4).cell? ⟨b, 1, none⟩ = some (oldv (((((W.setCell ⟨b, 0, none⟩ u0).setCell ⟨b, 1, none⟩ u1).setCell ⟨b, 2, none⟩ u2).setCell ⟨b, 3, none⟩ u3).setCell ⟨b, 4, none⟩ u4) b 1) ∧ (((((W.setCell ⟨b, 0, none⟩ u0).setCell ⟨b, 1, none⟩ u1).setCell ⟨b, 2, none⟩ u2).setCell ⟨b, 3, none⟩ u3).setCell ⟨b, 4, none⟩ u4).cell? ⟨b, 2, none⟩ = some (oldv (((((W.setCell ⟨b, 0, none⟩ u0).setCell ⟨b, 1, none⟩ u1).setCell ⟨b, 2, none⟩ u2).setCell ⟨b, 3, none⟩ u3).setCell ⟨b, 4, none⟩ u4) b 2) ∧ (((((W.setCell ⟨b, 0, none⟩ u0).setCell ⟨b, 1, none⟩ u1).setCell ⟨b, 2, none⟩ u2).setCell ⟨b, 3, none⟩ u3).setCell ⟨b, 4, none⟩ u4).cell? ⟨b, 3, none⟩ = some (oldv (((((W.setCell ⟨b, 0, none⟩ u0).setCell ⟨b, 1, none⟩ u1).setCell ⟨b, 2, none⟩ u2).setCell ⟨b, 3, none⟩ u3).setCell ⟨b, 4, none⟩ u4) b 3) ∧ (((((W.setCell ⟨b, 0, none⟩ u0).setCell ⟨b, 1, none⟩ u1).setCell ⟨b, 2, none⟩ u2).setCell ⟨b, 3, none⟩ u3).setCell ⟨b, 4, none⟩ u4).cell? ⟨b, 4, none⟩ = some (oldv (((((W.setCell ⟨b, 0, none⟩ u0).setCell ⟨b, 1, none⟩ u1).setCell ⟨b, 2, none⟩ u2).setCell ⟨b, 3, none⟩ u3).setCell ⟨b, 4, none⟩ u4) b 4) ∧ (((((W.setCell ⟨b, 0, none⟩ u0).setCell ⟨b, 1, none⟩ u1).setCell ⟨b, 2, none⟩ u2).setCell ⟨b, 3, none⟩ u3).setCell ⟨b, 4, none⟩ u4).frozen? ⟨b, 0, none⟩ = false ∧ (((((W.setCell ⟨b, 0, none⟩ u0).setCell ⟨b, 1, none⟩ u1).setCell ⟨b, 2, none⟩ u2).setCell ⟨b, 3, none⟩ u3).setCell ⟨b, 4, none⟩ u4).frozen? ⟨b, 1, none⟩ = false ∧ (((((W.setCell ⟨b, 0, none⟩ u0).setCell ⟨b, 1, none⟩ u1).setCell ⟨b, 2, none⟩ u2).setCell ⟨b, 3, none⟩ u3).setCell ⟨b, 4, none⟩ u4).frozen? ⟨b, 2, none⟩ = false ∧ (((((W.setCell ⟨b, 0, none⟩ u0).setCell ⟨b, 1, none⟩ u1).setCell ⟨b, 2, none⟩ u2).setCell ⟨b, 3, none⟩ u3).setCell ⟨b, 4, none⟩ u4).frozen? ⟨b, 3, none⟩ = false ∧ (((((W.setCell ⟨b, 0, none⟩ u0).setCell ⟨b, 1, none⟩ u1).setCell ⟨b, 2, none⟩ u2).setCell ⟨b, 3, none⟩ u3).setCell ⟨b, 4, none⟩ u4).frozen? ⟨b, 4, none⟩ = false := by
  obtain ⟨a0, a1, a2, a3, b0, b1, b2, b3, b4, f0, f1, f2, f3, f4⟩ := hp
  exact ⟨set_ne5 h a0, set_ne5 h a1, set_ne5 h a2, set_ne5 h a3, some_set5 b0, some_set5 b1, some_set5 b2, some_set5 b3, some_set5 b4, frozen_set5 f0, frozen_set5 f1, frozen_set5 f2, frozen_set5 f3, frozen_set5 f4⟩
theorem row_set5 {W : World} {b : Nat} {u0 u1 u2 u3 u4 x0 x1 x2 x3 x4 : Value} {T : TypeId} (h : W.heap[b]? = some (.cells #[x0, x1, x2, x3, x4] T (0, 0))) : (((((W.setCell ⟨b, 0, none⟩ u0).setCell ⟨b, 1, none⟩ u1).setCell ⟨b, 2, none⟩ u2).setCell ⟨b, 3, none⟩ u3).setCell ⟨b, 4, none⟩ u4).heap[b]? = some (.cells #[u0, u1, u2, u3, u4] T (0, 0)) :=
  heap_setCell_same _ _ 4 _ _ _ (heap_setCell_same _ _ 3 _ _ _ (heap_setCell_same _ _ 2 _ _ _ (heap_setCell_same _ _ 1 _ _ _ (heap_setCell_same _ _ 0 _ _ _ h))))
theorem App.setBox {ti tg B B' : Nat} {w : World} {v : Value} {ps : List (G × Value)} (h : App (EGv ti B) tg 4 B' w v ps) {a : Addr} (ha : a.block < B) (ha' : a.block < B') (u : Value) : App (EGv ti B) tg 4 B' (w.setCell a u) v ps := by
  obtain ⟨cs, ho, hr⟩ := h
  exact ⟨cs, ownsRow_setCell_below ho ha' u, hr.imp fun p c hp => ⟨hp.1, hp.2.setCell ha u⟩⟩
theorem Own.set5 {ti tg B b : Nat} {W : World} {v u0 u1 u2 u3 u4 : Value} {gs : List G} (h : Own ti tg B W v gs) (hb : b < B) : Own ti tg B (((((W.setCell ⟨b, 0, none⟩ u0).setCell ⟨b, 1, none⟩ u1).setCell ⟨b, 2, none⟩ u2).setCell ⟨b, 3, none⟩ u3).setCell ⟨b, 4, none⟩ u4) v gs := by
  obtain ⟨ps, h1, h2, h3⟩ := h
  exact ⟨ps, h1, h2, ((((h3.setBox (a := ⟨b, 0, none⟩) hb hb u0).setBox (a := ⟨b, 1, none⟩) hb hb u1).setBox (a := ⟨b, 2, none⟩) hb hb u2).setBox (a := ⟨b, 3, none⟩) hb hb u3).setBox (a := ⟨b, 4, none⟩) hb hb u4⟩
theorem Own.weak {ti tg B B' : Nat} {W : World} {v : Value} {gs : List G} (h : Own ti tg B W v gs) (hb : B' ≤ B) : Own ti tg B' W v gs := by
  obtain ⟨ps, h1, h2, h3⟩ := h
  exact ⟨ps, h1, h2, h3.imp hb fun _ _ h => h.weak hb⟩
theorem Own.below {ti tg B : Nat} {W W1 : World} {v : Value} {gs : List G} (h : Own ti tg B W v gs) (hb : Below W.heap.size W W1) : Own ti tg B W1 v gs := by
  obtain ⟨ps, h1, h2, h3⟩ := h
  exact ⟨ps, h1, h2, App.below (EGv.stays _ _) h3 hb⟩
def fitsF (i : Nat) : Value := .func (.func (if i = 43 then 110 else 113)) #[] #[]
set_option maxRecDepth 1000000 in
set_option maxHeartbeats 8000000 in
theorem ruled_any (i : Nat) (hi : i < 44) (w : World) (HT : Hid (Laid w)) : Calls Tryz.prog 67 #[.int .i64 i] w fun e w' =>
    ∃ v1 v2, e = .returned (.agg #[v1, v2, .int .i64 (ruleW i), .int .i64 (ruleP i), fitsF i]) ∧ Own 3 55 w.heap.size w' v1 (ruleL i) ∧ Own 3 55 w.heap.size w' v2 (ruleR i) ∧ Below w.heap.size w w' := by
  by_cases h43 : i = 43
  · subst h43
    have h1 : (((43 : Nat) : Int) == 43) = true := rfl
    go_enter Tryz.func67, Tryz.ntmps67
    go_wp2
    refine bodyPost_ret (results_cell_row rfl _ _ w.heap.size 88 _ _ _ rfl (heap_alloc_new _ _) Tryz.underlying88 rfl (by kernel_rfl)) rfl ⟨_, _, rfl, ?_, ?_, by (repeat (first|exact bR _ _|assumption|apply bN|apply bA|apply bD))⟩
    · exact ⟨[], rfl, List.Pairwise.nil, App.nil _ _ _ _ _⟩
    · exact ⟨[], rfl, List.Pairwise.nil, App.nil _ _ _ _ _⟩
  · have h1 : ((i : Int) == 43) = false := by simp; omega
    have hi' : i < 43 := by omega
    obtain ⟨g1, g2⟩ := rows_good i hi'
    have HG := Lib.hid (And.intro g1 g2)
    clear g1 g2
    go_enter Tryz.func67, Tryz.ntmps67
    go_wp2_with fail
    refine (rows_any _).mono ?_
    rintro e w2 ⟨rfl, hb⟩
    obtain ⟨l, r, x3, x4, hrow⟩ : ∃ l r a b, rowN i = (l, r, a, b) := ⟨_, _, _, _, rfl⟩
    have hix : (Instr.index 149 (.agg rowsC) (.int .i64 i)).run Tryz.prog w2 = .ok (.agg #[.string ⟨l.toArray⟩, .string ⟨r.toArray⟩, .int .i64 x3, .int .i64 x4]) w2 := by
      rw [index_rows i hi' w2, hrow]; rfl
    have HROW := Lib.hid hrow
    have HGG := Lib.hid (show goodT l = true ∧ goodT r = true by have := HG.out; rw [hrow] at this; exact this)
    obtain ⟨R, hR⟩ : ∃ R, rowsC = R := ⟨_, rfl⟩
    rw [hR] at hix ⊢
    clear hR hrow
    have hb1 := kc hb (a := ⟨w.heap.size, 0, none⟩) (v := .slice none 0 0) (by go_simp)
    have hb2 := kc hb (a := ⟨w.heap.size, 1, none⟩) (v := .slice none 0 0) (by go_simp)
    have hb3 := kc hb (a := ⟨w.heap.size, 2, none⟩) (v := .int .i64 0) (by go_simp)
    have hb4 := kc hb (a := ⟨w.heap.size, 3, none⟩) (v := .int .i64 0) (by go_simp)
    have hb5 := kc hb (a := ⟨w.heap.size, 4, none⟩) (v := .nilFunc) (by go_simp)
    go_wp2_with fail
    have hz : ∀ k, w2.frozen? ⟨w.heap.size, k, none⟩ = false := fun k => by rw [(bcell hb).2 _ _ (by simp)]; go_simp
    have hws : w.heap.size < w2.heap.size := by have := hb.size; simp at this; omega
    have hfz : ∀ (W' : World) (k : Nat) (o : Obj), Below (w2.alloc o).heap.size (w2.alloc o) W' → W'.frozen? ⟨w.heap.size, k, none⟩ = false := fun W' k o hb' => by
      rw [(bcell hb').2 _ _ (by simp; omega), (bcell (below_alloc (Below.refl _ _) _)).2 _ _ hws, hz]
    obtain ⟨W0, hW0⟩ : ∃ W0, w2.alloc (.cells #[.string ⟨l.toArray⟩, .string ⟨r.toArray⟩, .int .i64 x3, .int .i64 x4] 148) = W0 := ⟨_, rfl⟩
    have HC : Hid (∀ W', Below W0.heap.size W0 W' → (W'.cell? ⟨w2.heap.size, 0, none⟩ = some (.string ⟨l.toArray⟩) ∧ W'.cell? ⟨w2.heap.size, 1, none⟩ = some (.string ⟨r.toArray⟩) ∧ W'.cell? ⟨w2.heap.size, 2, none⟩ = some (.int .i64 x3) ∧ W'.cell? ⟨w2.heap.size, 3, none⟩ = some (.int .i64 x4) ∧ W'.cell? ⟨w.heap.size, 0, none⟩ = some (oldv W' w.heap.size 0) ∧ W'.cell? ⟨w.heap.size, 1, none⟩ = some (oldv W' w.heap.size 1) ∧ W'.cell? ⟨w.heap.size, 2, none⟩ = some (oldv W' w.heap.size 2) ∧ W'.cell? ⟨w.heap.size, 3, none⟩ = some (oldv W' w.heap.size 3) ∧ W'.cell? ⟨w.heap.size, 4, none⟩ = some (oldv W' w.heap.size 4) ∧ W'.frozen? ⟨w.heap.size, 0, none⟩ = false ∧ W'.frozen? ⟨w.heap.size, 1, none⟩ = false ∧ W'.frozen? ⟨w.heap.size, 2, none⟩ = false ∧ W'.frozen? ⟨w.heap.size, 3, none⟩ = false ∧ W'.frozen? ⟨w.heap.size, 4, none⟩ = false)) := by
      refine Lib.hid fun W' hb => ?_
      subst hW0
      exact ⟨kc hb (by go_simp), kc hb (by go_simp), kc hb (by go_simp), kc hb (by go_simp), oldv_of (by rw [kc hb (kc (below_alloc (Below.refl _ _) _) hb1)]; rfl), oldv_of (by rw [kc hb (kc (below_alloc (Below.refl _ _) _) hb2)]; rfl), oldv_of (by rw [kc hb (kc (below_alloc (Below.refl _ _) _) hb3)]; rfl), oldv_of (by rw [kc hb (kc (below_alloc (Below.refl _ _) _) hb4)]; rfl), oldv_of (by rw [kc hb (kc (below_alloc (Below.refl _ _) _) hb5)]; rfl), hfz _ _ _ hb, hfz _ _ _ hb, hfz _ _ _ hb, hfz _ _ _ hb, hfz _ _ _ hb⟩
    have HB0 := Lib.hid (show Below w.heap.size w W0 by rw [← hW0]; exact below_alloc ((below_alloc (Below.refl _ _) _).trans (hb.mono (by simp))) _)
    have HX := Lib.hid (show W0.heap[w.heap.size]? = w2.heap[w.heap.size]? by rw [← hW0, Below.heap_alloc _ _ _ hws])
    have HL0 := Lib.hid (show w.heap.size + 1 ≤ W0.heap.size by rw [← hW0]; have := hb.size; simp at this ⊢; omega)
    have HT0 := Lib.hid (HT.out.below HB0.out)
    rw [hW0]
    clear hW0
    go_region_held3 (fun W' => W'.cell? ⟨w2.heap.size, 0, none⟩ = some (.string ⟨l.toArray⟩) ∧ W'.cell? ⟨w2.heap.size, 1, none⟩ = some (.string ⟨r.toArray⟩) ∧ W'.cell? ⟨w2.heap.size, 2, none⟩ = some (.int .i64 x3) ∧ W'.cell? ⟨w2.heap.size, 3, none⟩ = some (.int .i64 x4) ∧ W'.cell? ⟨w.heap.size, 0, none⟩ = some (oldv W' w.heap.size 0) ∧ W'.cell? ⟨w.heap.size, 1, none⟩ = some (oldv W' w.heap.size 1) ∧ W'.cell? ⟨w.heap.size, 2, none⟩ = some (oldv W' w.heap.size 2) ∧ W'.cell? ⟨w.heap.size, 3, none⟩ = some (oldv W' w.heap.size 3) ∧ W'.cell? ⟨w.heap.size, 4, none⟩ = some (oldv W' w.heap.size 4) ∧ W'.frozen? ⟨w.heap.size, 0, none⟩ = false ∧ W'.frozen? ⟨w.heap.size, 1, none⟩ = false ∧ W'.frozen? ⟨w.heap.size, 2, none⟩ = false ∧ W'.frozen? ⟨w.heap.size, 3, none⟩ = false ∧ W'.frozen? ⟨w.heap.size, 4, none⟩ = false) (first | exact HC.out _ (by first | exact Below.refl _ _ | assumption | exact Below.drew (by first | exact Below.refl _ _ | assumption)) | exact keep5 hws (HC.out _ (by assumption))) (first
      | (go_at_call_of 112 (Value.string ⟨l.toArray⟩); refine (side_row l HGG.out.1 _ (Lib.hid (HT0.out.below (by (repeat (first|exact bR _ _|assumption|apply bN|apply bA|apply bD)))))).mono ?_; rintro e w51 ⟨v1, rfl, ⟨ps1, hps1, hd1, ho1⟩, hb51⟩; obtain ⟨A1, c1, rfl, hc1⟩ := ho1.form; have hb61 := Below.trans (show Below W0.heap.size W0 _ by (repeat (first|exact bR _ _|assumption|apply bN|apply bA|apply bD))) (hb51.mono (by first | exact Nat.le_refl _ | exact Below.size (by (repeat (first|exact bR _ _|assumption|apply bN|apply bA|apply bD))) | simp)))
      | (go_at_call_of 112 (Value.string ⟨r.toArray⟩); refine (side_row r HGG.out.2 _ (Lib.hid (HT0.out.below (by (repeat (first|exact bR _ _|assumption|apply bN|apply bA|apply bD)))))).mono ?_; rintro e w52 ⟨v1, rfl, ⟨ps2, hps2, hd2, ho2⟩, hb52⟩; obtain ⟨A2, c2, rfl, hc2⟩ := ho2.form; have hb62 := Below.trans (show Below W0.heap.size W0 _ by (repeat (first|exact bR _ _|assumption|apply bN|apply bA|apply bD))) (hb52.mono (by first | exact Nat.le_refl _ | exact Below.size (by (repeat (first|exact bR _ _|assumption|apply bN|apply bA|apply bD))) | simp))))
    have hbw : w2.heap[w.heap.size]? = some (.cells #[.slice none 0 0, .slice none 0 0, .int .i64 0, .int .i64 0, .nilFunc] 88 (0, 0)) := (hb.block w.heap.size (by simp)).trans (heap_alloc_new _ _)
    have hbx := (hb62.block w.heap.size (by have := HL0.out; omega)).trans (HX.out.trans hbw)
    have hl0 := HL0.out
    have o1 : Own 3 55 (w.heap.size + 1) w52 (.slice A1 ps1.length c1) (ruleL i) := (Own.weak ⟨ps1, by rw [hps1]; unfold ruleL; rw [HROW.out], hd1, ho1⟩ (by simpa using hl0)).below hb52
    have o2 : Own 3 55 (w.heap.size + 1) w52 (.slice A2 ps2.length c2) (ruleR i) := Own.weak ⟨ps2, by rw [hps2]; unfold ruleR; rw [HROW.out], hd2, ho2⟩ (by have := hb51.size; simp at this; omega)
    have hB : Below w.heap.size w w52 := HB0.out.trans (hb62.mono HB0.out.size)
    have e1 : ruleW i = x3 := by unfold ruleW; rw [HROW.out]
    have e2 : ruleP i = x4 := by unfold ruleP; rw [HROW.out]
    have e3 : fitsF i = .func (.func 113) #[] #[] := by unfold fitsF; rw [if_neg h43]
    have hF := And.intro hbx (And.intro o1 (And.intro o2 (And.intro hB (And.intro e1 (And.intro e2 e3)))))
    have HFF := Lib.hid hF
    clear hF hbx o1 o2 hB e1 e2 e3 hbw
    go_wp2
    obtain ⟨hbx, o1, o2, hB, e1, e2, e3⟩ := HFF.out
    exact bodyPost_ret (results_cell_row rfl _ _ w.heap.size 88 _ _ _ rfl (row_set5 hbx) Tryz.underlying88 rfl (by kernel_rfl)) rfl ⟨_, _, by rw [e1, e2, e3], (o1.set5 (by omega)).weak (by omega), (o2.set5 (by omega)).weak (by omega), ((((hB.setCell (Nat.le_refl _) _).setCell (Nat.le_refl _) _).setCell (Nat.le_refl _) _).setCell (Nat.le_refl _) _).setCell (Nat.le_refl _) _⟩
end Go.Proofs.YtfommmijojfdbaaGreatDoor
