/- Facts of a world as a list: words for the walks of laws. (Written by mkLF.py.) -/
import Derived.Test.YtfommmijojfdbaaGreatDoorZ36
import Derived.Test.YtfommmijojfdbaaGreatDoorZ23
import Derived.Test.YtfommmijojfdbaaGreatDoorZ08
import Derived.Test.YtfommmijojfdbaaGreatDoorZ14
import Derived.Test.YtfommmijojfdbaaGreatDoorSB
set_option linter.all false
namespace Go.Proofs.YtfommmijojfdbaaGreatDoor
open Go.RowKit

def exM : List M := [⟨43, 0, false, []⟩, ⟨43, 1, false, []⟩]
def exI : List M := [⟨9, 0, true, [0, 1]⟩, ⟨33, 0, true, [0, 1]⟩]
def exF : List M := [⟨0, 2, true, [0]⟩, ⟨23, 0, false, [0]⟩]
theorem App.rdM {ti tm B B' : Nat} {w : World} {v : Value} {xs : List M} (h : App (EMo ti B) tm 4 B' w v xs) (hl : xs.length ≤ 35184372088832) (hw : ∀ s ∈ xs, s.wires.length ≤ 35184372088832) : ∃ A c, v = .slice A xs.length c ∧ xs.length ≤ c ∧ RdM w A xs := by
  obtain ⟨cs, ho, hr⟩ := h
  exact App.rd (E := EM) ⟨cs, ho, hr.1, fun j g hj => (hr.2 j g hj).rd (hw _ (List.mem_of_getElem? hj))⟩ hl
/-- What is known of a world: it lies above w; rows of gates, of moves; a block's row. -/
inductive Fact
  | bel (w : World)
  | g (A : Option Addr) (gs : List G)
  | m (A : Option Addr) (l : List M)
  | x (b : Nat) (row : Array Value) (T : TypeId)
def Fact.ok (W : World) : Fact → Prop
  | .bel w => Below w.heap.size w W
  | .g A gs => RdG W A gs
  | .m A l => RdM W A l
  | .x b row T => W.heap[b]? = some (.cells row T (0, 0))
theorem Fact.below {W W' : World} (hb : Below W.heap.size W W') : ∀ f : Fact, f.ok W → f.ok W'
  | .bel _, h => Below.trans h (hb.mono (Below.size h))
  | .g _ _, h => Rd.bG h hb
  | .m _ _, h => Rd.bM h hb
  | .x _ _ _, h => blk2 hb h
def AllF (W : World) (fs : List Fact) : Prop := ∀ (i : Nat) (f : Fact), fs[i]? = some f → f.ok W
theorem AllF.nil (W : World) : AllF W [] := fun i f h => by simp at h
theorem AllF.step {W W' : World} {fs : List Fact} (h : AllF W fs) (hb : Below W.heap.size W W') : AllF W' fs := fun i f hf => f.below hb (h i f hf)
theorem AllF.push {W : World} {fs : List Fact} (h : AllF W fs) (f : Fact) (hf : f.ok W) : AllF W (f :: fs) := fun i g hg => by
  rcases i with _ | i
  · cases hg; exact hf
  · exact h i g hg
section
variable {W V : World} {fs : List Fact}
theorem AllF.al {row : Array Value} {T : TypeId} (h : AllF W fs) (hV : W.alloc (.cells row T) = V) : AllF V (.x W.heap.size row T :: fs) := by
  subst hV
  exact (h.step (below_alloc (Below.refl _ _) _)).push (.x W.heap.size row T) (blk_alloc _ _ _ rfl)
theorem AllF.al2 {r s : Array Value} {T U : TypeId} (h : AllF W fs) (hV : (W.alloc (.cells r T)).alloc (.cells s U) = V) : AllF V (.x (W.heap.size + 1) s U :: .x W.heap.size r T :: fs) := by
  have := (h.al rfl).al hV
  rwa [show (W.alloc (.cells r T)).heap.size = W.heap.size + 1 by simp] at this
theorem AllF.al3 {r s q : Array Value} {T U X : TypeId} (h : AllF W fs) (hV : ((W.alloc (.cells r T)).alloc (.cells s U)).alloc (.cells q X) = V) : AllF V (.x (W.heap.size + 2) q X :: .x (W.heap.size + 1) s U :: .x W.heap.size r T :: fs) := by
  have := (h.al2 rfl).al hV
  rwa [show ((W.alloc (.cells r T)).alloc (.cells s U)).heap.size = W.heap.size + 2 by simp] at this
theorem AllF.dr (h : AllF W fs) (hV : W.drew = V) : AllF V fs := by
  subst hV
  exact h.step (bD (Below.refl _ _))
theorem AllF.iB (h : AllF W fs) (i : Nat) {w : World} (hi : fs[i]? = some (.bel w) := by rfl) : Below w.heap.size w W := h i _ hi
theorem AllF.iG (h : AllF W fs) (i : Nat) {A : Option Addr} {gs : List G} (hi : fs[i]? = some (.g A gs) := by rfl) : RdG W A gs := h i _ hi
theorem AllF.iM (h : AllF W fs) (i : Nat) {A : Option Addr} {l : List M} (hi : fs[i]? = some (.m A l) := by rfl) : RdM W A l := h i _ hi
theorem AllF.iX (h : AllF W fs) (i : Nat) {b : Nat} {row : Array Value} {T : TypeId} (hi : fs[i]? = some (.x b row T) := by rfl) : W.heap[b]? = some (.cells row T (0, 0)) := h i _ hi
theorem AllF.i3 (h : AllF W fs) (i : Nat) {b : Nat} {x0 x1 x2 : Value} {T : TypeId} (hi : fs[i]? = some (.x b #[x0, x1, x2] T) := by rfl) :
    W.cell? ⟨b, 0, none⟩ = some x0 ∧ W.cell? ⟨b, 1, none⟩ = some x1 ∧ W.cell? ⟨b, 2, none⟩ = some x2 ∧ (∀ k, W.frozen? ⟨b, k, none⟩ = false) ∧ b < W.heap.size := by
  obtain ⟨h0, h1, h2, hf⟩ := cells3 (h.iX i hi)
  exact ⟨h0, h1, h2, hf, blk_lt (h.iX i hi)⟩
theorem AllF.i4 (h : AllF W fs) (i : Nat) {b : Nat} {x0 x1 x2 x3 : Value} {T : TypeId} (hi : fs[i]? = some (.x b #[x0, x1, x2, x3] T) := by rfl) :
    W.cell? ⟨b, 0, none⟩ = some x0 ∧ W.cell? ⟨b, 1, none⟩ = some x1 ∧ W.cell? ⟨b, 2, none⟩ = some x2 ∧ W.cell? ⟨b, 3, none⟩ = some x3 ∧ (∀ k, W.frozen? ⟨b, k, none⟩ = false) ∧ b < W.heap.size := by
  obtain ⟨h0, h1, h2, h3, hf⟩ := cells4 (h.iX i hi)
  exact ⟨h0, h1, h2, h3, hf, blk_lt (h.iX i hi)⟩
theorem olds3 (w : World) : ∀ (x y z : Obj) (b o : Nat), b < w.heap.size → (((w.alloc x).alloc y).alloc z).cell? ⟨b, o, none⟩ = w.cell? ⟨b, o, none⟩ := fun x y z b o h => by
  rw [olds w _ _ _ _ h (by simp; omega), olds w _ _ _ _ h (by simp), olds w _ _ _ _ h (Nat.le_refl _)]
/-- Rows of ints, each in a block; rows of gates, of moves whose wires lie so. -/
def IntsAt (W : World) : List (List Int × Nat) → Prop
  | [] => True
  | (ws, b) :: l => W.heap[b]? = some (.cells (ws.map (Value.int .i64)).toArray 3 (0, 0)) ∧ IntsAt W l
theorem IntsAt.get : ∀ {l : List (List Int × Nat)} {k : Nat} {ws : List Int} {b : Nat}, IntsAt W l → l[k]? = some (ws, b) → W.heap[b]? = some (.cells (ws.map (Value.int .i64)).toArray 3 (0, 0))
  | _ :: _, 0, ws, b, h, e => by cases e; exact h.1
  | _ :: _, k + 1, ws, b, h, e => IntsAt.get (k := k) h.2 e
def gateRow (l : List (G × Nat)) : List (List Value) := l.map fun p => [.int .i64 p.1.kind, .slice (some ⟨p.2, 0, none⟩) p.1.wires.length p.1.wires.length, .int .i64 p.1.bit, .int .i64 p.1.cif]
theorem gatesOf (l : List (G × Nat)) {b : Nat} {row : Array Value} {T : TypeId} (hb : W.heap[b]? = some (.cells row T (0, 0))) (hi : IntsAt W (l.map fun p => (p.1.wires, p.2))) (hrow : row = (gateRow l).flatten.toArray := by rfl) (hs : (l.length ≤ 1000000 ∧ ∀ p ∈ l, p.1.wires.length ≤ 1000000) := by simp [gt]) : RdG W (some ⟨b, 0, none⟩) (l.map Prod.fst) := by
  refine Rd.blk (gateRow l) hb hrow (by simpa using hs.1) (by simp [gateRow]) (fun cs h => by obtain ⟨p, _, rfl⟩ := List.mem_map.1 h; rfl) fun k x cs hx hc => ?_
  unfold gateRow at hc
  rw [List.getElem?_map] at hx hc
  cases hp : l[k]? with
  | none => rw [hp] at hx; cases hx
  | some p =>
    rw [hp] at hx hc
    cases hx
    cases hc
    exact ⟨_, _, rfl, Nat.le_refl _, RdI.blk p.1.wires (hi.get (k := k) (by rw [List.getElem?_map, hp]; rfl)) rfl (hs.2 p (List.mem_of_getElem? hp))⟩
def moveRow (l : List (M × Nat)) : List (List Value) := l.map fun p => [.int .i64 p.1.rule, .int .i64 p.1.at_, .bool p.1.back, .slice (some ⟨p.2, 0, none⟩) p.1.wires.length p.1.wires.length]
theorem movesOf (l : List (M × Nat)) {b : Nat} {row : Array Value} {T : TypeId} (hb : W.heap[b]? = some (.cells row T (0, 0))) (hi : IntsAt W (l.map fun p => (p.1.wires, p.2))) (hrow : row = (moveRow l).flatten.toArray := by rfl) (hs : (l.length ≤ 1000000 ∧ ∀ p ∈ l, p.1.wires.length ≤ 1000000) := by simp [gt]) : RdM W (some ⟨b, 0, none⟩) (l.map Prod.fst) := by
  refine Rd.blk (moveRow l) hb hrow (by simpa using hs.1) (by simp [moveRow]) (fun cs h => by obtain ⟨p, _, rfl⟩ := List.mem_map.1 h; rfl) fun k x cs hx hc => ?_
  unfold moveRow at hc
  rw [List.getElem?_map] at hx hc
  cases hp : l[k]? with
  | none => rw [hp] at hx; cases hx
  | some p =>
    rw [hp] at hx hc
    cases hx
    cases hc
    exact ⟨_, _, rfl, Nat.le_refl _, RdI.blk p.1.wires (hi.get (k := k) (by rw [List.getElem?_map, hp]; rfl)) rfl (hs.2 p (List.mem_of_getElem? hp))⟩
end
theorem Own.rG {ti tg B : Nat} {W : World} {A : Option Addr} {k : Nat} {gs : List G} (h : Own ti tg B W (.slice A gs.length k) gs) (hl : gs.length ≤ 1000000) (hg : ∀ g ∈ gs, g.wires.length ≤ 1000000) : RdG W A gs := by
  obtain ⟨A', c', e, _, hr⟩ := h.rd (by omega) (fun g hx => by have := hg g hx; omega)
  cases e
  exact hr
theorem greatC_no {c : C} (h : greatC c = false) : c.gates.length ≤ 130 ∧ ∀ g ∈ c.gates, g.wires.length ≤ 6 := by
  unfold greatC at h
  rw [Bool.or_eq_false_iff, decide_eq_false_iff_not, List.any_eq_false] at h
  exact ⟨by omega, fun g hg => by have := h.2 g hg; simpa using this⟩
theorem greatM_no {l : List M} (h : greatM l = false) : l.length ≤ 420 ∧ ∀ s ∈ l, s.wires.length ≤ 6 := by
  unfold greatM at h
  rw [Bool.or_eq_false_iff, decide_eq_false_iff_not, List.any_eq_false] at h
  exact ⟨by omega, fun g hg => by have := h.2 g hg; simpa using this⟩
end Go.Proofs.YtfommmijojfdbaaGreatDoor
