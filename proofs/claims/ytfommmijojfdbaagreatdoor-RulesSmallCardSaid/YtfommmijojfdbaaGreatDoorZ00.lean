/- Part 1 of the proof that 'spoondriftlaw19.RulesApplies' holds for every input; it has no condition beyond the statement's own. -/
import Derived.Below
import Derived.WalkKit
import Derived.WalkSpells
import Derived.WalkLawsBesides
import Derived.Lib.Hide
import Derived.Maps.AppendAt
import Derived.Laws.OwnMore
import Derived.WalkSmall
import Derived.Shelf.Sort.Plain
import Derived.Shelf.LaysM
import Derived.Shelf.Strings.SplitShaped
import Derived.Shelf.Slices.CompactI
import Derived.Shelf.Slices.In.SortNone
import Derived.Ground.Names2Prog
import Derived.Test.YtfommmijojfdbaaGreatDoorProg
set_option linter.all false
namespace Go.Proofs.YtfommmijojfdbaaGreatDoor
open Go.RowKit
structure G where
  kind : Int
  wires : List Int
  bit : Int
  cif : Int
  deriving DecidableEq
structure M where
  rule : Int
  at_ : Int
  back : Bool
  wires : List Int
  deriving DecidableEq
structure C where
  wires : Int
  bits : Int
  gates : List G
  deriving DecidableEq
theorem bcell {W w1 : World} (hb : Below W.heap.size W w1) : (∀ b o, b < W.heap.size → w1.cell? ⟨b, o, none⟩ = W.cell? ⟨b, o, none⟩) ∧ (∀ b o, b < W.heap.size → w1.frozen? ⟨b, o, none⟩ = W.frozen? ⟨b, o, none⟩) :=
  ⟨fun b o h => hb.cell (p := ⟨b, o, none⟩) h, fun b o h => hb.frozen (p := ⟨b, o, none⟩) h⟩
theorem cell_lt {w : World} {b o : Nat} {v : Value} (h : w.cell? ⟨b, o, none⟩ = some v) : b < w.heap.size := World.block_lt_of_cell? (a := ⟨b, o, none⟩) w h
theorem kc {W w1 : World} {a : Addr} {v : Value} (hb : Below W.heap.size W w1) (h : W.cell? a = some v) : w1.cell? a = some v := (hb.cell (World.block_lt_of_cell? W a h)).trans h
theorem olds (w : World) : ∀ (W : World) (x : Obj) (b o : Nat), b < w.heap.size → w.heap.size ≤ W.heap.size → (W.alloc x).cell? ⟨b, o, none⟩ = W.cell? ⟨b, o, none⟩ :=
  fun _ _ _ _ h h' => World.cell?_alloc_lt _ _ _ (Nat.lt_of_lt_of_le h h')
theorem ret_int {k : IntKind} {a b : Int} (h : a = b) : Ending.returned (.int k a) = .returned (.int k b) := by rw [h]
theorem ret_bool {a b : Bool} (h : a = b) : Ending.returned (.bool a) = .returned (.bool b) := by rw [h]
def Rd {α : Type} (E : World → α → List Value → Prop) (sz : Nat) (w : World) (A : Option Addr) (xs : List α) : Prop :=
  xs.length ≤ 35184372088832 ∧ ∀ k x, xs[k]? = some x → ∃ b o cs, A = some ⟨b, o, none⟩ ∧ E w x cs ∧ cs.length = sz ∧ ∀ i u, cs[i]? = some u → w.cell? ⟨b, o + k * sz + i, none⟩ = some u
def EI (_ : World) (x : Int) (cs : List Value) : Prop := cs = [.int .i64 x]
abbrev RdI (w : World) (A : Option Addr) (xs : List Int) : Prop := Rd EI 1 w A xs
def EG (w : World) (g : G) (cs : List Value) : Prop := ∃ A c, cs = [.int .i64 g.kind, .slice A g.wires.length c, .int .i64 g.bit, .int .i64 g.cif] ∧ g.wires.length ≤ c ∧ RdI w A g.wires
def EM (w : World) (s : M) (cs : List Value) : Prop := ∃ A c, cs = [.int .i64 s.rule, .int .i64 s.at_, .bool s.back, .slice A s.wires.length c] ∧ s.wires.length ≤ c ∧ RdI w A s.wires
def EL (w : World) (l : List Int) (cs : List Value) : Prop := ∃ A c, cs = [.slice A l.length c] ∧ l.length ≤ c ∧ RdI w A l
abbrev RdG (w : World) (A : Option Addr) (xs : List G) : Prop := Rd EG 4 w A xs
abbrev RdM (w : World) (A : Option Addr) (xs : List M) : Prop := Rd EM 4 w A xs
abbrev RdL (w : World) (A : Option Addr) (xs : List (List Int)) : Prop := Rd EL 1 w A xs
def EGs (w : World) (l : List G) (cs : List Value) : Prop := ∃ A c, cs = [.slice A l.length c] ∧ l.length ≤ c ∧ RdG w A l
abbrev RdGs (w : World) (A : Option Addr) (xs : List (List G)) : Prop := Rd EGs 1 w A xs
def Stays {α : Type} (E : World → α → List Value → Prop) : Prop := ∀ w w1 x cs, Below w.heap.size w w1 → E w x cs → E w1 x cs
theorem Rd.below {α : Type} {E : World → α → List Value → Prop} {sz : Nat} {w w1 : World} {A : Option Addr} {xs : List α} (hE : Stays E) (h : Rd E sz w A xs) (hb : Below w.heap.size w w1) : Rd E sz w1 A xs :=
  ⟨h.1, fun k x hx => by
    obtain ⟨b, o, cs, e, he, hl, hc⟩ := h.2 k x hx
    exact ⟨b, o, cs, e, hE _ _ _ _ hb he, hl, fun i u hu => (hb.cell (p := ⟨b, _, none⟩) (cell_lt (hc i u hu))).trans (hc i u hu)⟩⟩
theorem EI.stays : Stays EI := fun _ _ _ _ _ h => h
theorem EG.stays : Stays EG := fun _ _ _ _ hb ⟨A, c, e, hc, h⟩ => ⟨A, c, e, hc, h.below EI.stays hb⟩
theorem EM.stays : Stays EM := fun _ _ _ _ hb ⟨A, c, e, hc, h⟩ => ⟨A, c, e, hc, h.below EI.stays hb⟩
theorem EL.stays : Stays EL := fun _ _ _ _ hb ⟨A, c, e, hc, h⟩ => ⟨A, c, e, hc, h.below EI.stays hb⟩
theorem EGs.stays : Stays EGs := fun _ _ _ _ hb ⟨A, c, e, hc, h⟩ => ⟨A, c, e, hc, h.below EG.stays hb⟩
theorem Rd.bI {w w1 : World} {A : Option Addr} {xs : List Int} (h : RdI w A xs) (hb : Below w.heap.size w w1) : RdI w1 A xs := h.below EI.stays hb
theorem Rd.bG {w w1 : World} {A : Option Addr} {xs : List G} (h : RdG w A xs) (hb : Below w.heap.size w w1) : RdG w1 A xs := h.below EG.stays hb
theorem Rd.bM {w w1 : World} {A : Option Addr} {xs : List M} (h : RdM w A xs) (hb : Below w.heap.size w w1) : RdM w1 A xs := h.below EM.stays hb
theorem Rd.nil {α : Type} (E : World → α → List Value → Prop) (sz : Nat) (w : World) (A : Option Addr) : Rd E sz w A [] := ⟨by simp, fun k x h => by simp at h⟩
theorem Rd.int {w : World} {A : Option Addr} {xs : List Int} (h : RdI w A xs) (k : Nat) (hk : k < xs.length) :
    ∃ b o, A = some ⟨b, o, none⟩ ∧ w.cell? ⟨b, o + k, none⟩ = some (.int .i64 xs[k]) := by
  obtain ⟨b, o, cs, e, rfl, _, hc⟩ := h.2 k _ (List.getElem?_eq_getElem hk)
  exact ⟨b, o, e, by simpa using hc 0 _ rfl⟩
theorem Rd.gate {w : World} {A : Option Addr} {xs : List G} (h : RdG w A xs) (k : Nat) (hk : k < xs.length) :
    ∃ b o B c, A = some ⟨b, o, none⟩ ∧ w.cell? ⟨b, o + k * 4, none⟩ = some (.int .i64 xs[k].kind) ∧ w.cell? ⟨b, o + k * 4 + 1, none⟩ = some (.slice B xs[k].wires.length c) ∧ w.cell? ⟨b, o + k * 4 + 2, none⟩ = some (.int .i64 xs[k].bit) ∧ w.cell? ⟨b, o + k * 4 + 3, none⟩ = some (.int .i64 xs[k].cif) ∧
      xs[k].wires.length ≤ c ∧ RdI w B xs[k].wires := by
  obtain ⟨b, o, cs, e, ⟨B, c, rfl, hl, hr⟩, _, hc⟩ := h.2 k _ (List.getElem?_eq_getElem hk)
  exact ⟨b, o, B, c, e, by simpa using hc 0 _ rfl, by simpa using hc 1 _ rfl, by simpa using hc 2 _ rfl, by simpa using hc 3 _ rfl, hl, hr⟩
theorem Rd.move {w : World} {A : Option Addr} {xs : List M} (h : RdM w A xs) (k : Nat) (hk : k < xs.length) :
    ∃ b o B c, A = some ⟨b, o, none⟩ ∧ w.cell? ⟨b, o + k * 4, none⟩ = some (.int .i64 xs[k].rule) ∧ w.cell? ⟨b, o + k * 4 + 1, none⟩ = some (.int .i64 xs[k].at_) ∧ w.cell? ⟨b, o + k * 4 + 2, none⟩ = some (.bool xs[k].back) ∧ w.cell? ⟨b, o + k * 4 + 3, none⟩ = some (.slice B xs[k].wires.length c) ∧
      xs[k].wires.length ≤ c ∧ RdI w B xs[k].wires := by
  obtain ⟨b, o, cs, e, ⟨B, c, rfl, hl, hr⟩, _, hc⟩ := h.2 k _ (List.getElem?_eq_getElem hk)
  exact ⟨b, o, B, c, e, by simpa using hc 0 _ rfl, by simpa using hc 1 _ rfl, by simpa using hc 2 _ rfl, by simpa using hc 3 _ rfl, hl, hr⟩
theorem Rd.row {w : World} {A : Option Addr} {xs : List (List Int)} (h : RdL w A xs) (k : Nat) (hk : k < xs.length) :
    ∃ b o B c, A = some ⟨b, o, none⟩ ∧ w.cell? ⟨b, o + k, none⟩ = some (.slice B xs[k].length c) ∧ xs[k].length ≤ c ∧ RdI w B xs[k] := by
  obtain ⟨b, o, cs, e, ⟨B, c, rfl, hl, hr⟩, _, hc⟩ := h.2 k _ (List.getElem?_eq_getElem hk)
  exact ⟨b, o, B, c, e, by simpa using hc 0 _ rfl, hl, hr⟩
theorem Rd.gates {w : World} {A : Option Addr} {xs : List (List G)} (h : RdGs w A xs) (k : Nat) (hk : k < xs.length) :
    ∃ b o B c, A = some ⟨b, o, none⟩ ∧ w.cell? ⟨b, o + k, none⟩ = some (.slice B xs[k].length c) ∧ xs[k].length ≤ c ∧ RdG w B xs[k] := by
  obtain ⟨b, o, cs, e, ⟨B, c, rfl, hl, hr⟩, _, hc⟩ := h.2 k _ (List.getElem?_eq_getElem hk)
  exact ⟨b, o, B, c, e, by simpa using hc 0 _ rfl, hl, hr⟩
theorem Rd.take {α : Type} {E : World → α → List Value → Prop} {sz : Nat} {w : World} {A : Option Addr} {xs : List α} (h : Rd E sz w A xs) (i : Nat) : Rd E sz w A (xs.take i) :=
  ⟨by rw [List.length_take]; have := h.1; omega, fun k x hx => h.2 k x (by rw [List.getElem?_take] at hx; split at hx; exact hx; cases hx)⟩
theorem Rd.drop {α : Type} {E : World → α → List Value → Prop} {sz : Nat} {w : World} {b o : Nat} {xs : List α} (h : Rd E sz w (some ⟨b, o, none⟩) xs) (i : Nat) : Rd E sz w (some ⟨b, o + i * sz, none⟩) (xs.drop i) :=
  ⟨by rw [List.length_drop]; have := h.1; omega, fun k x hx => by
    rw [List.getElem?_drop] at hx
    obtain ⟨b', o', cs, e, he, hl, hc⟩ := h.2 (i + k) x hx
    cases e
    refine ⟨b, o + i * sz, cs, rfl, he, hl, fun j u hu => ?_⟩
    have := hc j u hu
    rw [Nat.add_mul, ← Nat.add_assoc] at this
    exact this⟩
def Reps {α : Type} (R : α → List Value → Prop) (sz : Nat) (ps : List α) (cs : List Value) : Prop :=
  cs.length = ps.length * sz ∧ ∀ j p, ps[j]? = some p → R p ((cs.drop (j * sz)).take sz)
theorem Reps.nil {α : Type} (R : α → List Value → Prop) (sz : Nat) : Reps R sz [] [] := ⟨by simp, fun j p h => by simp at h⟩
theorem Reps.snoc {α : Type} {R : α → List Value → Prop} {sz : Nat} {ps : List α} {cs c : List Value} {p : α} (h : Reps R sz ps cs) (hp : R p c) (hc : c.length = sz) : Reps R sz (ps ++ [p]) (cs ++ c) := by
  refine ⟨by rw [List.length_append, h.1, hc, List.length_append, List.length_singleton, Nat.add_mul, Nat.one_mul], fun j q hq => ?_⟩
  rcases Nat.lt_or_ge j ps.length with hj | hj
  · rw [List.getElem?_append_left hj] at hq
    have h1 : j * sz + sz ≤ cs.length := by rw [h.1, ← Nat.succ_mul]; exact Nat.mul_le_mul_right _ hj
    rw [List.drop_append_of_le_length (by omega), List.take_append_of_le_length (by rw [List.length_drop]; omega)]
    exact h.2 j q hq
  · have hj' : j = ps.length := by
      have := (List.getElem?_eq_some_iff.1 hq).1
      rw [List.length_append, List.length_singleton] at this
      omega
    subst hj'
    have hq' : p = q := by simpa using hq
    subst hq'
    rw [← h.1, List.drop_left, ← hc, List.take_length]
    exact hp
theorem Reps.imp {α : Type} {R R' : α → List Value → Prop} {sz : Nat} {ps : List α} {cs : List Value} (h : Reps R sz ps cs) (hR : ∀ p c, R p c → R' p c) : Reps R' sz ps cs := ⟨h.1, fun j p hj => hR _ _ (h.2 j p hj)⟩
def App {α : Type} (E : World → α → List Value → Prop) (T sz B : Nat) (w : World) (v : Value) (xs : List α) : Prop :=
  ∃ cs, w.ownsRow B T sz v xs.length cs ∧ Reps (E w) sz xs cs
theorem App.nil {α : Type} (E : World → α → List Value → Prop) (T sz B : Nat) (w : World) : App E T sz B w (.slice none 0 0) [] := ⟨[], World.ownsRow_nil _ _ _ _, Reps.nil _ _⟩
theorem own_type_ne {w : World} {b b' : Nat} {e e' : TypeId} {s s' n n' : Nat} {v v' : Value} {xs xs' : List Value} (h : w.ownsRow b e s v n xs) (h' : w.ownsRow b' e' s' v' n' xs') (hne : e ≠ e') : v.ownBlock = none ∨ v.ownBlock ≠ v'.ownBlock := by
  rcases h.2 with ⟨rfl, _⟩ | ⟨g, cap, cur, rfl, _, hh, _⟩
  · exact .inl rfl
  · refine .inr fun hk => ?_
    rcases h'.2 with ⟨rfl, _⟩ | ⟨g', cap', cur', rfl, _, hh', _⟩
    · simp [Value.ownBlock] at hk
    · have : g = g' := by simpa [Value.ownBlock] using hk
      subst this
      rw [hh] at hh'
      injection hh' with hh'
      injection hh' with _ ht
      exact hne ht
theorem own_base {w : World} {B : Nat} {e : TypeId} {sz n : Nat} {v : Value} {xs : List Value} (h : w.ownsRow B e sz v n xs) (k : Nat) (hk : v.ownBlock = some k) : B ≤ k := (h.lt k hk).1
theorem grown_of_below {w w1 : World} (h : Below w.heap.size w w1) (row : Option Nat) : w.grownBy w1 row := ⟨h.os, h.tape, h.output, h.size, fun i hi _ => h.block i hi⟩
theorem own_weak {w : World} {B B' : Nat} {e : TypeId} {sz n : Nat} {v : Value} {xs : List Value} (h : w.ownsRow B e sz v n xs) (hB : B' ≤ B) : w.ownsRow B' e sz v n xs := by
  obtain ⟨h1, h2⟩ := h
  refine ⟨h1, h2.imp id ?_⟩
  rintro ⟨g, cap, cur, e, hb, r⟩
  exact ⟨g, cap, cur, e, Nat.le_trans hB hb, r⟩
theorem App.kept {α : Type} {E E' : World → α → List Value → Prop} {T sz B B' : Nat} {w w1 : World} {v : Value} {xs : List α} (h : App E T sz B w v xs) {row : Option Nat} (hg : w.grownBy w1 row) (hne : v.ownBlock = none ∨ v.ownBlock ≠ row) (hB : B' ≤ B) (hE : ∀ x cs, E w x cs → E' w1 x cs) : App E' T sz B' w1 v xs := by
  obtain ⟨cs, ho, hr⟩ := h
  exact ⟨cs, own_weak (ho.kept hg hne) hB, hr.imp hE⟩
theorem App.imp {α : Type} {E E' : World → α → List Value → Prop} {T sz B B' : Nat} {w : World} {v : Value} {xs : List α} (h : App E T sz B w v xs) (hB : B' ≤ B) (hE : ∀ x cs, E w x cs → E' w x cs) : App E' T sz B' w v xs := by
  obtain ⟨cs, ho, hr⟩ := h
  exact ⟨cs, own_weak ho hB, hr.imp hE⟩
theorem App.below {α : Type} {E : World → α → List Value → Prop} {T sz B : Nat} {w w1 : World} {v : Value} {xs : List α} (hE : Stays E) (h : App E T sz B w v xs) (hb : Below w.heap.size w w1) : App E T sz B w1 v xs :=
  h.kept (grown_of_below hb none) (by cases v.ownBlock <;> simp) (Nat.le_refl _) (fun _ _ he => hE _ _ _ _ hb he)
theorem below_alloc {w W : World} (h : Below w.heap.size w W) (o : Obj) : Below w.heap.size w (W.alloc o) := h.alloc h.size o
theorem bR (B : Nat) (w : World) : Below B w w := Below.refl B w
theorem bN {B : Nat} {a w : World} (h : Below B a w) (n : Nat) : Below B a (w.drewN n) := below_drewN h n
theorem bA {w W : World} (h : Below w.heap.size w W) (o : Obj) : Below w.heap.size w (W.alloc o) := below_alloc h o
theorem bD {B : Nat} {a w : World} (h : Below B a w) : Below B a w.drew := h.drew
theorem App.alloc {α : Type} {E : World → α → List Value → Prop} {T sz B : Nat} {w : World} {v : Value} {xs : List α} (hE : Stays E) (h : App E T sz B w v xs) (o : Obj) : App E T sz B (w.alloc o) v xs := h.below hE (below_alloc (Below.refl _ _) o)
theorem App.rd {α : Type} {E : World → α → List Value → Prop} {T sz B : Nat} {w : World} {v : Value} {xs : List α} (h : App E T sz B w v xs) (hl : xs.length ≤ 35184372088832) :
    ∃ A c, v = .slice A xs.length c ∧ xs.length ≤ c ∧ Rd E sz w A xs := by
  obtain ⟨cs, ho, hr⟩ := h
  rcases ho.2 with ⟨rfl, h0⟩ | ⟨g, cap, cur, rfl, _, _, hc, _⟩
  · have : xs = [] := List.eq_nil_of_length_eq_zero h0
    subst this
    exact ⟨none, 0, rfl, Nat.le_refl _, Rd.nil _ _ _ _⟩
  · refine ⟨_, cap, rfl, hc, hl, fun k x hx => ⟨g, 0, _, rfl, hr.2 k x hx, ?_, fun i u hu => ?_⟩⟩
    · have hk := (List.getElem?_eq_some_iff.1 hx).1
      have h1 : k * sz + sz ≤ cs.length := by rw [hr.1, ← Nat.succ_mul]; exact Nat.mul_le_mul_right _ hk
      rw [List.length_take, List.length_drop]
      omega
    · rw [List.getElem?_take] at hu
      split at hu
      · rw [List.getElem?_drop] at hu
        have := ho.cells (g := g) rfl _ u hu
        have ha : (⟨g, 0, none⟩ : Addr).add (k * sz + i) = ⟨g, 0 + k * sz + i, none⟩ := by unfold Addr.add; split <;> simp_all
        rwa [ha] at this
      · cases hu
theorem App.form {α : Type} {E : World → α → List Value → Prop} {T sz B : Nat} {w : World} {v : Value} {xs : List α} (h : App E T sz B w v xs) : ∃ A c, v = .slice A xs.length c ∧ xs.length ≤ c := by
  obtain ⟨cs, ho, hr⟩ := h
  rcases ho.2 with ⟨rfl, h0⟩ | ⟨g, cap, cur, rfl, _, _, hc, _⟩
  · exact ⟨none, 0, by rw [h0], by omega⟩
  · exact ⟨_, cap, rfl, hc⟩
def EGo (ti B : Nat) (w : World) (g : G) (cs : List Value) : Prop := ∃ v, cs = [.int .i64 g.kind, v, .int .i64 g.bit, .int .i64 g.cif] ∧ App EI ti 1 B w v g.wires
def EMo (ti B : Nat) (w : World) (s : M) (cs : List Value) : Prop := ∃ v, cs = [.int .i64 s.rule, .int .i64 s.at_, .bool s.back, v] ∧ App EI ti 1 B w v s.wires
def ELo (ti B : Nat) (w : World) (l : List Int) (cs : List Value) : Prop := ∃ v, cs = [v] ∧ App EI ti 1 B w v l
theorem EGo.stays (ti B : Nat) : Stays (EGo ti B) := fun _ _ _ _ hb ⟨v, e, h⟩ => ⟨v, e, h.below EI.stays hb⟩
theorem EMo.stays (ti B : Nat) : Stays (EMo ti B) := fun _ _ _ _ hb ⟨v, e, h⟩ => ⟨v, e, h.below EI.stays hb⟩
theorem ELo.stays (ti B : Nat) : Stays (ELo ti B) := fun _ _ _ _ hb ⟨v, e, h⟩ => ⟨v, e, h.below EI.stays hb⟩
theorem EGo.rd {ti B : Nat} {w : World} {g : G} {cs : List Value} (h : EGo ti B w g cs) (hl : g.wires.length ≤ 35184372088832) : EG w g cs := by
  obtain ⟨v, rfl, h⟩ := h
  obtain ⟨A, c, rfl, hc, hr⟩ := h.rd hl
  exact ⟨A, c, rfl, hc, hr⟩
theorem EMo.rd {ti B : Nat} {w : World} {g : M} {cs : List Value} (h : EMo ti B w g cs) (hl : g.wires.length ≤ 35184372088832) : EM w g cs := by
  obtain ⟨v, rfl, h⟩ := h
  obtain ⟨A, c, rfl, hc, hr⟩ := h.rd hl
  exact ⟨A, c, rfl, hc, hr⟩
theorem App.other {ti T n sz B B' : Nat} {w w1 : World} {v v' : Value} {xs : List Int} {cs : List Value} (h : App EI ti 1 B w v xs) (h' : w.ownsRow B' T sz v' n cs) (hg : w.grownBy w1 v'.ownBlock) (hne : ti ≠ T) : App EI ti 1 B w1 v xs := by
  obtain ⟨c, ho, hr⟩ := h
  exact ⟨c, ho.kept hg (own_type_ne ho h' hne), hr⟩
theorem EGo.other {ti T n sz B B' : Nat} {w w1 : World} {v' : Value} {g : G} {cs cs' : List Value} (h : EGo ti B w g cs) (h' : w.ownsRow B' T sz v' n cs') (hg : w.grownBy w1 v'.ownBlock) (hne : ti ≠ T) : EGo ti B w1 g cs := by
  obtain ⟨v, e, h⟩ := h
  exact ⟨v, e, h.other h' hg hne⟩
theorem EMo.other {ti T n sz B B' : Nat} {w w1 : World} {v' : Value} {g : M} {cs cs' : List Value} (h : EMo ti B w g cs) (h' : w.ownsRow B' T sz v' n cs') (hg : w.grownBy w1 v'.ownBlock) (hne : ti ≠ T) : EMo ti B w1 g cs := by
  obtain ⟨v, e, h⟩ := h
  exact ⟨v, e, h.other h' hg hne⟩
section
variable {P : Program} {ops : Array Oper} {rest : List Oper} {o : Oper} {a : Act} {Q : Exit → Act → World → Prop}
theorem wp_app {α : Type} {E : World → α → List Value → Prop} {W : World} (T sz B : Nat) (hgd : o.guard = none) (s x : Operand) (t : TypeId) (z : Value) (bytes : Nat)
    (ho : o.op = .call { callee := .builtin .append, args := #[s, x], argTypes := #[t, t] })
    (ht : P.underlying t = some (.slice T)) (hinfo : (P.info? T).map (fun i => (i.zero, i.size, i.bytes)) = some (some z, sz, bytes)) (hz : z.cells.size = sz) (hs0 : 0 < sz) (hb0 : 0 < bytes)
    (v : Value) (xs : List α) (p : α) (ys : List Value) (hs : a.eval s = v) (hx : a.eval x = .slice (some ⟨W.heap.size, 0, none⟩) 1 1) (hys : ys.length = sz) (h1 : ∀ u ∈ ys, u.oneCell' = true)
    (hp : E W p ys) (HO : App E T sz B W v xs) (hB : B ≤ W.heap.size) (hl : (xs.length + 1) * bytes ≤ 140737488355328)
    (hE : ∀ w1 n cs, W.ownsRow B T sz v n cs → W.grownBy w1 v.ownBlock → ∀ x cs, E W x cs → E w1 x cs)
    (h : ∀ v1 w1, App E T sz B w1 v1 (xs ++ [p]) → W.grownBy w1 v.ownBlock → wpList P ops Q rest (a.put o.dst v1) w1) :
    wpList P ops Q (o :: rest) a (W.alloc (.cells ys.toArray T)) := by
  obtain ⟨i0, hi, hzz⟩ := Option.map_eq_some_iff.1 hinfo
  simp only [Prod.mk.injEq] at hzz
  obtain ⟨hz0, hz1, hz2⟩ := hzz
  obtain ⟨cs, hown, hrep⟩ := HO
  have hlen : xs.length + 1 ≤ 140737488355328 := Nat.le_trans (Nat.le_mul_of_pos_right _ hb0) hl
  refine wpList_append_own_at (W.alloc (.cells ys.toArray T)) hgd s x t ho B T i0 z sz bytes ht hi hz0 hz1 hz2 hz hs0 v xs.length cs hs (hown.alloc _) ⟨W.heap.size, 0, none⟩ 1 1 ys hx (by rw [hys]; simp)
    (fun j u hj => ?_) h1 (by simp only [maxLen]; omega) hl (by simp; omega) ?_
  · have ha : (⟨W.heap.size, 0, none⟩ : Addr).add j = ⟨W.heap.size, j, none⟩ := by unfold Addr.add; split <;> simp_all
    rw [ha, World.cell?_alloc_new]
    simpa using hj
  intro v1 w1 ho1 hg _ _
  have hgg : W.grownBy w1 v.ownBlock := World.grownBy.trans (b := W.alloc (.cells ys.toArray T)) ⟨rfl, rfl, rfl, by simp, fun i hi _ => Below.heap_alloc _ _ _ hi⟩ hg
  refine h v1 w1 ⟨cs ++ ys, by simpa using ho1, ?_⟩ hgg
  exact (hrep.imp (hE w1 _ _ hown hgg)).snoc (hE w1 _ _ hown hgg _ _ hp) hys
end
end Go.Proofs.YtfommmijojfdbaaGreatDoor
namespace Go.Proofs
open Go.Shelf
def Tryz.lays189_ren : Go.Shelf.Ren := ⟨fun | 189 => 140 | 125 => 162 | 257 => 161 | 128 => 177 | 129 => 178 | 294 => 168 | 295 => 169 | 296 => 170 | 297 => 171 | 298 => 172 | 299 => 173 | 216 => 174 | 300 => 175 | 301 => 176 | 328 => 185 | 329 => 186 | 330 => 187 | 331 => 188 | 332 => 189 | 215 => 127 | 343 => 193 | n => n, fun | 28 => 25 | 3 => 3 | 46 => 124 | 0 => 0 | 51 => 117 | 53 => 198 | 4 => 4 | 183 => 189 | 182 => 188 | 131 => 194 | 5 => 5 | 9 => 9 | 218 => 207 | 222 => 211 | 228 => 225 | 229 => 226 | n => n, fun | n => n⟩
theorem Tryz.lays189 : Go.Proofs.Lays.n189 Tryz.prog Tryz.lays189_ren := {
  mixed := by kernel_rfl
  f125 := Tryz.func162.trans (congrArg some (by kernel_rfl))
  f128 := Tryz.func177.trans (congrArg some (by kernel_rfl))
  f129 := Tryz.func178.trans (congrArg some (by kernel_rfl))
  f189 := Tryz.func140.trans (congrArg some (by kernel_rfl))
  f215 := Tryz.func127.trans (congrArg some (by kernel_rfl))
  f216 := Tryz.func174.trans (congrArg some (by kernel_rfl))
  f257 := Tryz.func161.trans (congrArg some (by kernel_rfl))
  f294 := Tryz.func168.trans (congrArg some (by kernel_rfl))
  f295 := Tryz.func169.trans (congrArg some (by kernel_rfl))
  f296 := Tryz.func170.trans (congrArg some (by kernel_rfl))
  f297 := Tryz.func171.trans (congrArg some (by kernel_rfl))
  f298 := Tryz.func172.trans (congrArg some (by kernel_rfl))
  f299 := Tryz.func173.trans (congrArg some (by kernel_rfl))
  f300 := Tryz.func175.trans (congrArg some (by kernel_rfl))
  f301 := Tryz.func176.trans (congrArg some (by kernel_rfl))
  f328 := Tryz.func185.trans (congrArg some (by kernel_rfl))
  f329 := Tryz.func186.trans (congrArg some (by kernel_rfl))
  f330 := Tryz.func187.trans (congrArg some (by kernel_rfl))
  f331 := Tryz.func188.trans (congrArg some (by kernel_rfl))
  f332 := Tryz.func189.trans (congrArg some (by kernel_rfl))
  f343 := Tryz.func193.trans (congrArg some (by kernel_rfl))
  t0 := Tryz.underlying0
  a0 := Tryz.isAgg0
  z0 := Tryz.sizeOf0
  v0 := Tryz.zeroValue0
  t3 := Tryz.underlying3
  a3 := Tryz.isAgg3
  z3 := Tryz.sizeOf3
  v3 := Tryz.zeroValue3
  t4 := Tryz.underlying4
  a4 := Tryz.isAgg4
  z4 := Tryz.sizeOf4
  v4 := Tryz.zeroValue4
  t5 := Tryz.underlying5
  a5 := Tryz.isAgg5
  z5 := Tryz.sizeOf5
  v5 := Tryz.zeroValue5
  t9 := Tryz.underlying9
  a9 := Tryz.isAgg9
  z9 := Tryz.sizeOf9
  v9 := Tryz.zeroValue9
  t28 := Tryz.underlying25
  a28 := Tryz.isAgg25
  z28 := Tryz.sizeOf25
  v28 := Tryz.zeroValue25
  t46 := Tryz.underlying124
  a46 := Tryz.isAgg124
  z46 := Tryz.sizeOf124
  v46 := Tryz.zeroValue124
  t51 := Tryz.underlying117
  a51 := Tryz.isAgg117
  z51 := Tryz.sizeOf117
  v51 := Tryz.zeroValue117
  t53 := Tryz.underlying198
  a53 := Tryz.isAgg198
  z53 := Tryz.sizeOf198
  v53 := Tryz.zeroValue198
  t131 := Tryz.underlying194
  a131 := Tryz.isAgg194
  z131 := Tryz.sizeOf194
  v131 := Tryz.zeroValue194
  t182 := Tryz.underlying188
  a182 := Tryz.isAgg188
  z182 := Tryz.sizeOf188
  v182 := Tryz.zeroValue188
  t183 := Tryz.underlying189
  a183 := Tryz.isAgg189
  z183 := Tryz.sizeOf189
  v183 := Tryz.zeroValue189
  t218 := Tryz.underlying207
  a218 := Tryz.isAgg207
  z218 := Tryz.sizeOf207
  v218 := Tryz.zeroValue207
  t222 := Tryz.underlying211
  a222 := Tryz.isAgg211
  z222 := Tryz.sizeOf211
  v222 := Tryz.zeroValue211
  t228 := Tryz.underlying225
  a228 := Tryz.isAgg225
  z228 := Tryz.sizeOf225
  v228 := Tryz.zeroValue225
  t229 := Tryz.underlying226
  a229 := Tryz.isAgg226
  z229 := Tryz.sizeOf226
  v229 := Tryz.zeroValue226 }
open Go.Sort Go.RowKit in
theorem Tryz.slices_Sort_int (blk off cap : Nat) (zs : List Int) (w : World) (hH : Holds (Value.int .i64) w blk off zs.toArray) (hblk : blk < w.heap.size) (hsz : zs.length < 4611686018427387904) :
    Calls Tryz.prog 140 #[.slice (some ⟨blk, off, none⟩) zs.length cap] w fun e w' =>
      e = .returned (.tuple #[]) ∧ ∃ n os, w' = grow (putRow (Value.int .i64) (Sort.ahead w n) blk off (zs.mergeSort fun x y => decide (x ≤ y)).toArray) os := Any.slices_Sort_int Tryz.lays189 blk off cap zs w hH hblk hsz
def Tryz.laysM157_ren : Go.Shelf.Ren := ⟨fun | 157 => 145 | 229 => 165 | 199 => 166 | 261 => 184 | 311 => 191 | 312 => 192 | n => n, fun | 9 => 9 | 31 => 171 | 3 => 3 | 5 => 5 | 4 => 4 | 119 => 184 | 0 => 0 | 40 => 186 | 152 => 202 | 21 => 21 | 154 => 204 | 51 => 117 | 141 => 206 | 196 => 217 | 193 => 214 | 198 => 220 | 49 => 218 | 194 => 215 | 201 => 223 | 226 => 228 | 46 => 124 | 227 => 229 | n => n, fun | 0 => 2 | 6 => 3 | n => n⟩
theorem Tryz.laysM157 : Go.Proofs.LaysM.n157 Tryz.prog Tryz.laysM157_ren := {
  mixed := by kernel_rfl
  f157 := Tryz.func145.trans (congrArg some (by kernel_rfl))
  f199 := Tryz.func166.trans (congrArg some (by kernel_rfl))
  f229 := Tryz.func165.trans (congrArg some (by kernel_rfl))
  f261 := Tryz.func184.trans (congrArg some (by kernel_rfl))
  f311 := Tryz.func191.trans (congrArg some (by kernel_rfl))
  f312 := Tryz.func192.trans (congrArg some (by kernel_rfl))
  t0 := Tryz.underlying0
  a0 := Tryz.isAgg0
  z0 := Tryz.sizeOf0
  v0 := Tryz.zeroValue0
  t3 := Tryz.underlying3
  a3 := Tryz.isAgg3
  z3 := Tryz.sizeOf3
  v3 := Tryz.zeroValue3
  t4 := Tryz.underlying4
  a4 := Tryz.isAgg4
  z4 := Tryz.sizeOf4
  v4 := Tryz.zeroValue4
  t5 := Tryz.underlying5
  a5 := Tryz.isAgg5
  z5 := Tryz.sizeOf5
  v5 := Tryz.zeroValue5
  t9 := Tryz.underlying9
  a9 := Tryz.isAgg9
  z9 := Tryz.sizeOf9
  v9 := Tryz.zeroValue9
  t21 := Tryz.underlying21
  a21 := Tryz.isAgg21
  z21 := Tryz.sizeOf21
  v21 := Tryz.zeroValue21
  t31 := Tryz.underlying171
  a31 := Tryz.isAgg171
  z31 := Tryz.sizeOf171
  v31 := Tryz.zeroValue171
  t40 := Tryz.underlying186
  a40 := Tryz.isAgg186
  z40 := Tryz.sizeOf186
  v40 := Tryz.zeroValue186
  t46 := Tryz.underlying124
  a46 := Tryz.isAgg124
  z46 := Tryz.sizeOf124
  v46 := Tryz.zeroValue124
  t49 := Tryz.underlying218
  a49 := Tryz.isAgg218
  z49 := Tryz.sizeOf218
  v49 := Tryz.zeroValue218
  t51 := Tryz.underlying117
  a51 := Tryz.isAgg117
  z51 := Tryz.sizeOf117
  v51 := Tryz.zeroValue117
  t119 := Tryz.underlying184
  a119 := Tryz.isAgg184
  z119 := Tryz.sizeOf184
  t141 := Tryz.underlying206
  a141 := Tryz.isAgg206
  z141 := Tryz.sizeOf206
  v141 := Tryz.zeroValue206
  t152 := Tryz.underlying202
  a152 := Tryz.isAgg202
  z152 := Tryz.sizeOf202
  v152 := Tryz.zeroValue202
  t154 := Tryz.underlying204
  a154 := Tryz.isAgg204
  z154 := Tryz.sizeOf204
  v154 := Tryz.zeroValue204
  t193 := Tryz.underlying214
  a193 := Tryz.isAgg214
  z193 := Tryz.sizeOf214
  v193 := Tryz.zeroValue214
  t194 := Tryz.underlying215
  a194 := Tryz.isAgg215
  z194 := Tryz.sizeOf215
  v194 := Tryz.zeroValue215
  t196 := Tryz.underlying217
  a196 := Tryz.isAgg217
  z196 := Tryz.sizeOf217
  v196 := Tryz.zeroValue217
  t198 := Tryz.underlying220
  a198 := Tryz.isAgg220
  z198 := Tryz.sizeOf220
  v198 := Tryz.zeroValue220
  t201 := Tryz.underlying223
  a201 := Tryz.isAgg223
  z201 := Tryz.sizeOf223
  v201 := Tryz.zeroValue223
  t226 := Tryz.underlying228
  a226 := Tryz.isAgg228
  z226 := Tryz.sizeOf228
  v226 := Tryz.zeroValue228
  t227 := Tryz.underlying229
  a227 := Tryz.isAgg229
  z227 := Tryz.sizeOf229
  v227 := Tryz.zeroValue229
  g0 := by kernel_rfl
  g6 := by kernel_rfl
  i0 := by kernel_rfl
  i3 := by kernel_rfl
  i4 := by kernel_rfl
  i5 := by kernel_rfl
  i9 := by kernel_rfl
  i21 := by kernel_rfl
  i31 := by kernel_rfl
  i40 := by kernel_rfl
  i46 := by kernel_rfl
  i49 := by kernel_rfl
  i51 := by kernel_rfl
  i141 := by kernel_rfl
  i152 := by kernel_rfl
  i154 := by kernel_rfl
  i193 := by kernel_rfl
  i194 := by kernel_rfl
  i196 := by kernel_rfl
  i198 := by kernel_rfl
  i201 := by kernel_rfl
  i226 := by kernel_rfl
  i227 := by kernel_rfl
  m0 := by kernel_rfl
  m6 := by kernel_rfl }
def Tryz.laysNm220_ren : Go.Shelf.Ren := ⟨fun | 20 => 103 | n => n, fun | 22 => 25 | 3 => 3 | 4 => 4 | 0 => 0 | n => n, fun | n => n⟩
theorem Tryz.laysNm220 : Go.Proofs.Lays2.n20 Tryz.prog Tryz.laysNm220_ren := {
  mixed := by kernel_rfl
  f20 := Tryz.func103.trans (congrArg some (by kernel_rfl))
  t0 := Tryz.underlying0
  a0 := Tryz.isAgg0
  z0 := Tryz.sizeOf0
  v0 := Tryz.zeroValue0
  t3 := Tryz.underlying3
  a3 := Tryz.isAgg3
  z3 := Tryz.sizeOf3
  v3 := Tryz.zeroValue3
  t4 := Tryz.underlying4
  a4 := Tryz.isAgg4
  z4 := Tryz.sizeOf4
  v4 := Tryz.zeroValue4
  t22 := Tryz.underlying25
  a22 := Tryz.isAgg25
  z22 := Tryz.sizeOf25
  v22 := Tryz.zeroValue25
  i3 := by kernel_rfl }
open Go.RowKit Go.Lib Go.Sort in
theorem Tryz.slices_Compact_int (blk off cap : Nat) (zs : List Int) (w : World) (hH : Holds (Value.int .i64) w blk off zs.toArray) (hsz : zs.length ≤ 9223372036854775807) (hcap : zs.length ≤ cap) :
    Calls Tryz.prog 103 #[.slice (some ⟨blk, off, none⟩) zs.length cap] w fun e w' => e = .returned (.slice (some ⟨blk, off, none⟩) (Lib.compact zs).length cap) ∧ ∃ q, w' = putRow (Value.int .i64) (Sort.ahead w q) blk off (Lib.compact zs ++ List.replicate (zs.length - (Lib.compact zs).length) 0).toArray := Any.slices_Compact_int Tryz.laysNm220 blk off cap zs w hH hsz hcap
open Go.RowKit Go.Lib Go.Sort in
theorem Tryz.slices_Compact_int_empty (a : Option Addr) (cap : Nat) (w : World) :
    Calls Tryz.prog 103 #[.slice a 0 cap] w fun e w' => e = .returned (.slice a 0 cap) ∧ w' = w := Any.slices_Compact_int_empty Tryz.laysNm220 a cap w
open Go.RowKit Go.Sort in
theorem Tryz.slices_Sort_int_none (p : Option Addr) (cap : Nat) (w : World) :
    Calls Tryz.prog 140 #[.slice p 0 cap] w fun e w' => e = .returned (.tuple #[]) ∧ w' = w := Any.slices_Sort_int_none Tryz.lays189 p cap w
end Go.Proofs
