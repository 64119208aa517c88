/- Part 3 of the proof that 'spoondriftlaw19.RulesApplies' holds for every input; it has no condition beyond the statement's own. -/
import Derived.RangeFuncNested
import Derived.RangeFuncBound
import Derived.RangeFuncCalls
import Derived.RangeFuncLeaves
import Derived.Test.YtfommmijojfdbaaGreatDoorZ00
import Derived.Laws.BytesArg
import Derived.Tactics
import Derived.Test.YtfommmijojfdbaaGreatDoorProg
import Derived.Deep.QuietTactic
import Derived.BigQuiet
set_option linter.all false
namespace Go.Proofs.YtfommmijojfdbaaGreatDoor
open Go.RowKit
def Turns (o : Obj) : Prop := o.isCells = false ∨ ∃ b, o = .cells #[.bool b] 4 (0, 0)
def Abide {β : Type} (L : Nat) (I : β → World → Prop) : Prop :=
  ∀ s W W' row, I s W → W.grownBy W' row → (∀ r, row = some r → L ≤ r ∧ ∃ o : Obj, W.heap[r]? = some o ∧ Turns o) → I s W'
theorem Abide.putObj {β : Type} {L : Nat} {I : β → World → Prop} (h : Abide L I) {s : β} {W : World} {l : Nat} {o : Obj} (o' : Obj) (hs : I s W) (hB : L ≤ l) (hl : W.heap[l]? = some o) (ho : o.isCells = false) : I s (W.putObj l o') :=
  h s W _ (some l) hs (grownBy_putObj' W l o') (fun r e => by cases e; exact ⟨hB, o, hl, .inl ho⟩)
theorem Abide.alloc {β : Type} {L : Nat} {I : β → World → Prop} (h : Abide L I) {s : β} {W : World} (o : Obj) (hs : I s W) : I s (W.alloc o) :=
  h s W _ none hs (World.grownBy_alloc W o none) (fun r e => by cases e)
theorem Abide.below {β : Type} {L : Nat} {I : β → World → Prop} (h : Abide L I) {s : β} {W W' : World} (hs : I s W) (hb : Below W.heap.size W W') : I s W' :=
  h s W W' none hs ⟨hb.os, hb.tape, hb.output, hb.size, fun i hi _ => hb.block i hi⟩ (fun r e => by cases e)
theorem Abide.flag {β : Type} {L : Nat} {I : β → World → Prop} (h : Abide L I) {s : β} {W : World} {b : Nat} {v : Bool} (u : Bool) (hs : I s W) (hL : L ≤ b) (hb : W.heap[b]? = some (.cells #[.bool v] 4 (0, 0))) : I s (W.setCell ⟨b, 0, none⟩ (.bool u)) :=
  h s W _ (some b) hs (grownBy_setCell' W b _) (fun r e => by cases e; exact ⟨hL, _, hb, .inr ⟨_, rfl⟩⟩)
theorem Abide.and {β : Type} {L : Nat} {I I' : β → World → Prop} (h : Abide L I) (h' : Abide L I') : Abide L (fun s W => I s W ∧ I' s W) := fun s W W' row hs hg hr => ⟨h s W W' row hs.1 hg hr, h' s W W' row hs.2 hg hr⟩
theorem below_put {n l : Nat} {W : World} {o : Obj} (o' : Obj) (hn : n ≤ l) (h : W.heap[l]? = some o) : Below n W (W.putObj l o') :=
  (Below.refl n W).grown (grownBy_putObj' W l o') (by have := (Array.getElem?_eq_some_iff.1 h).1; omega) (fun k e => by cases e; exact hn)
section
variable {P : Program}
def IterK {α : Type} (P : Program) (g : Nat) (lb : Array Value) (Rp : World → α → Array Value → Prop) (Kp : World → World → Prop) (w : World) (xs : List α) : Prop :=
  ∀ (l : Nat) (J Jx : List α → World → Prop) (W : World), Below w.heap.size w W → Abide W.heap.size J → Abide W.heap.size Jx →
    (∀ pre x args W1, J pre W1 → pre ++ [x] <+: xs → Rp W1 x args → YieldAt Fence.wide 0 P l args W1 fun e W' =>
      (e = .returned (.bool true) ∧ J (pre ++ [x]) W' ∧ Kp W1 W') ∨ (e = .returned (.bool false) ∧ Jx (pre ++ [x]) W' ∧ Kp W1 W')) →
    J [] W →
    CallsIn Fence.wide 0 P g (#[.func (.yield l) #[] #[]] ++ lb) W fun e W' => (∃ v, e = .returned v) ∧ (J xs W' ∨ ∃ pre, pre <+: xs ∧ Jx pre W')
theorem IterK.later {α : Type} {g : Nat} {lb : Array Value} {Rp : World → α → Array Value → Prop} {Kp : World → World → Prop} {w w' : World} {xs : List α} (h : IterK P g lb Rp Kp w xs) (hb : Below w.heap.size w w') : IterK P g lb Rp Kp w' xs :=
  fun l J Jx W hW hJ hJx hY h0 => h l J Jx W (hb.trans (hW.mono hb.size)) hJ hJx hY h0
def rfPost {α : Type} (B : Nat) (Kp : World → World → Prop) (I : List α → World → Prop) (Ix : Code → List α → World → Prop) (xs : List α) (W : World) : Exit → Act → World → Prop
  | .normal, _, W' => KeepsFrom B W W' ∧ Kp W W' ∧ I xs W'
  | .ret, _, W' => KeepsFrom B W W' ∧ Kp W W' ∧ Ix .ret xs W'
  | .exit id, _, W' => KeepsFrom B W W' ∧ Kp W W' ∧ Ix (.exit id) xs W'
  | .goto t, _, W' => KeepsFrom B W W' ∧ Kp W W' ∧ Ix (.goto t) xs W'
  | .panic _, _, _ => False
  | .outgrown, _, _ => False
theorem rf_law {α : Type} {g : Operand} {ps : Array Tmp} {assign body : Code} {Q : Exit → Act → World → Prop} {a : Act} {w : World}
    {gf : Nat} {lb : Array Value} (hg : a.eval g = .func (.func gf) #[] lb) (eg : ∀ args w, (callFunc gf args).run P w = .ok (.enter gf args) w)
    {Rp : World → α → Array Value → Prop} {Kp : World → World → Prop} {xs : List α} (hseq : IterK P gf lb Rp Kp w xs)
    (hKt : ∀ {A B C : World}, Kp A B → Kp B C → Kp A C) (hKb : ∀ (W : World) (l : Nat) (o o' : Obj), W.heap[l]? = some o → o.isCells = false → w.heap.size ≤ l → Kp W (W.putObj l o')) (hps : ∀ W x args, Rp W x args → args.size = ps.size)
    (I : List α → World → Prop) (Ix : Code → List α → World → Prop) (hI : Abide w.heap.size I) (hIx : ∀ c, Abide w.heap.size (Ix c)) (h0 : I [] w) (Ax : α → Act → World → Prop) (hAx : ∀ a', Abide w.heap.size (fun x W => Ax x a' W))
    (hassign : ∀ (l : Nat) (pre : List α) (x : α) (args : Array Value) (W : World) (K : Act → World → Prop), I pre W → Rp W x args → (∀ a' W', KeepsFrom w.heap.size W W' → Kp W W' → I pre W' → Ax x a' W' → K a' W') →
      assign.wpIn (Fence.wide.inRound l) 0 P (Exit.then K (fun _ _ _ => False)) { tmps := (ps.zip args).foldl (fun t (p, v) => t.setIfInBounds p v) a.tmps, defers := [] } W)
    (hbody : ∀ (l : Nat) (pre : List α) (x : α) (a' : Act) (W : World), I pre W → Ax x a' W → pre ++ [x] <+: xs → body.wpIn (Fence.wide.inRound l) 0 P (rfPost w.heap.size Kp I Ix (pre ++ [x]) W) a' W)
    (hdone : ∀ (D : Nat) (W : World), w.heap.size ≤ D → I xs W → W.heap[D]? = some (.deferred (some [])) → Q .normal { a with defers := { target := .collected D, args := #[] } :: a.defers } W)
    (hstop : ∀ (D : Nat) (c : Code) (pre : List α) (W : World), w.heap.size ≤ D → pre <+: xs → Ix c pre W → W.heap[D]? = some (.deferred (some [])) → c.wpIn Fence.wide 0 P Q { a with defers := { target := .collected D, args := #[] } :: a.defers } W) :
    (Code.rangeFunc g ps assign body).wpIn Fence.wide 0 P Q a w := by
  refine wpIn_rangeFunc ?_
  intro fn hfn
  rw [show Fence.wide.round = none from rfl]
  obtain ⟨rec, hrec⟩ : ∃ rec : LoopState → Option Code → Loop, rec = fun st pe => { state := st, pending := pe, fn, tmps := a.tmps, params := ps, assign, body, defers := w.heap.size } := ⟨_, rfl⟩
  obtain ⟨W1, hW1⟩ : ∃ W1, (w.alloc (.deferred (some []))).alloc (.loop (rec .ready none)) = W1 := ⟨_, rfl⟩
  have hL1 : W1.heap[w.heap.size + 1]? = some (.loop (rec .ready none)) := by
    rw [← hW1]; have := World.alloc_heap_new (w.alloc (.deferred (some []))) (.loop (rec .ready none)); rwa [World.size_alloc] at this
  have hK1 : W1.heap[w.heap.size]? = some (.deferred (some [])) := by
    rw [← hW1]; exact (Below.heap_alloc _ _ _ (by simp)).trans (World.alloc_heap_new w _)
  have hI1 : I [] W1 := by rw [← hW1]; exact hI.alloc _ (hI.alloc _ h0)
  have hb1 : Below w.heap.size w W1 := by
    rw [← hW1]; exact ((Below.refl _ w).alloc (Nat.le_refl _) _).alloc (by simp) _
  have hs1 : w.heap.size ≤ W1.heap.size := hb1.size
  refine ⟨w.heap.size + 1, [{ target := .collected w.heap.size, args := #[] }], W1, { target := .fn (.func gf) lb, args := #[.func (.yield (w.heap.size + 1)) #[] #[]] }, W1, gf,
    #[.func (.yield (w.heap.size + 1)) #[] #[]] ++ lb, W1, ?_, ?_, ?_, ?_, (fun h => by cases h), ?_⟩
  · rw [← hW1, hrec]; exact run_enterLoop_outer _ _ _ _ _
  · simp only [resolve, hg]
    simp [go_sem]
  · intro f' hf'; trivial
  · simp [invoke, go_sem, eg]
  · have mono : ∀ {β : Type} {J : β → World → Prop}, Abide w.heap.size J → Abide W1.heap.size J := fun h s X Y row hs hg' hr => h s X Y row hs hg' fun r e => ⟨Nat.le_trans hs1 (hr r e).1, (hr r e).2⟩
    -- the two blocks of the book lie below what the iterator turns
    have keep : ∀ {k : Nat} {o : Obj} {X Y : World} {row : Option Nat}, k < W1.heap.size → X.heap[k]? = some o → X.grownBy Y row → (∀ r, row = some r → W1.heap.size ≤ r ∧ ∃ o : Obj, X.heap[r]? = some o ∧ Turns o) → Y.heap[k]? = some o := fun {k o X Y row} hk hX hg' hr => by
      refine (hg'.block k (Array.getElem?_eq_some_iff.1 hX).1 (fun e => ?_)).trans hX
      have := (hr k e.symm).1
      omega
    have hz1 : w.heap.size + 1 < W1.heap.size := (Array.getElem?_eq_some_iff.1 hL1).1
    refine (hseq (w.heap.size + 1)
      (fun pre W => I pre W ∧ W.heap[w.heap.size + 1]? = some (.loop (rec .ready none)) ∧ W.heap[w.heap.size]? = some (.deferred (some [])))
      (fun pre W => ∃ c, Ix c pre W ∧ W.heap[w.heap.size + 1]? = some (.loop (rec .done (some c))) ∧ W.heap[w.heap.size]? = some (.deferred (some [])))
      W1 hb1
      (fun s A B row hs hg' hr => ⟨mono hI s A B row hs.1 hg' hr, keep hz1 hs.2.1 hg' hr, keep (by omega) hs.2.2 hg' hr⟩)
      (fun s A B row hs hg' hr => by
        obtain ⟨c, hc, hl, hk⟩ := hs
        exact ⟨c, mono (hIx c) s A B row hc hg' hr, keep hz1 hl hg' hr, keep (by omega) hk hg' hr⟩)
      ?_ ⟨hI1, hL1, hK1⟩).mono ?_
    · rintro pre x args W ⟨hi, hl, hk⟩ hpre hrp
      have hy := run_yield (P := P) (args := args) hl (by rw [hrec]; exact hps _ _ _ hrp)
      rw [hrec] at hy
      refine ⟨fn, _, assign, body, hy, roundIn_of_wpIn hfn (hassign _ pre x args W _ hi hrp ?_)⟩
      clear hy
      intro a' Wa hkfa hkpa hia hax
      replace hl := hkfa.same _ _ (by omega) hl rfl
      replace hk := hkfa.same _ _ (Nat.le_refl _) hk rfl
      have hlt : w.heap.size + 1 < Wa.heap.size := (Array.getElem?_eq_some_iff.1 hl).1
      refine ⟨_, run_beginRound hl (by rw [hrec]), ?_⟩
      have hl2 : (Wa.putObj (w.heap.size + 1) (.loop { rec .ready none with state := .busy })).heap[w.heap.size + 1]? = some (.loop { rec .ready none with state := .busy }) := World.putObj_heap_same hlt
      have hk2 : (Wa.putObj (w.heap.size + 1) (.loop { rec .ready none with state := .busy })).heap[w.heap.size]? = some (.deferred (some [])) := (World.putObj_heap_other (by omega)).trans hk
      have hw2 : Kp Wa (Wa.putObj (w.heap.size + 1) (.loop { rec .ready none with state := .busy })) := hKb _ _ _ _ hl rfl (by omega)
      refine wpIn_mono (hbody _ pre x a' _ (hI.putObj _ hia (by omega) hl rfl) ((hAx a').putObj _ hax (by omega) hl rfl) hpre) ?_
      have fin : ∀ (jump : Option Code) (W3 : World), KeepsFrom w.heap.size (Wa.putObj (w.heap.size + 1) (.loop { rec .ready none with state := .busy })) W3 →
          (Instr.endRound (w.heap.size + 1) jump).run P W3 = .ok (.bool jump.isNone) (W3.putObj (w.heap.size + 1) (.loop (rec (if jump.isNone then .ready else .done) jump))) ∧
          W3.heap[w.heap.size + 1]? = some (.loop { rec .ready none with state := .busy }) ∧
          (W3.putObj (w.heap.size + 1) (.loop (rec (if jump.isNone then .ready else .done) jump))).heap[w.heap.size + 1]? = some (.loop (rec (if jump.isNone then .ready else .done) jump)) ∧
          (W3.putObj (w.heap.size + 1) (.loop (rec (if jump.isNone then .ready else .done) jump))).heap[w.heap.size]? = some (.deferred (some [])) := fun jump W3 hk3 => by
        have hl3 := hk3.same _ _ (by omega) hl2 rfl
        have := run_endRound (P := P) jump hl3
        rw [hrec] at this ⊢
        exact ⟨this, by rw [hrec] at hl3; exact hl3, World.putObj_heap_same (Array.getElem?_eq_some_iff.1 hl3).1, (World.putObj_heap_other (by omega)).trans (hk3.same _ _ (Nat.le_refl _) hk2 rfl)⟩
      rintro e a3 W3 hp
      cases e with
      | normal =>
        obtain ⟨hk3, hkp3, hi3⟩ := hp
        obtain ⟨hr, hl3, hl4, hk4⟩ := fin none W3 hk3
        exact ⟨_, _, hr, .inl ⟨rfl, ⟨hI.putObj _ hi3 (by omega) hl3 rfl, hl4, hk4⟩, hKt hkpa (hKt (hKt hw2 hkp3) (hKb _ _ _ _ hl3 rfl (by omega)))⟩⟩
      | ret =>
        obtain ⟨hk3, hkp3, hi3⟩ := hp
        obtain ⟨hr, hl3, hl4, hk4⟩ := fin (some .ret) W3 hk3
        exact ⟨_, _, hr, .inr ⟨rfl, ⟨.ret, (hIx _).putObj _ hi3 (by omega) hl3 rfl, hl4, hk4⟩, hKt hkpa (hKt (hKt hw2 hkp3) (hKb _ _ _ _ hl3 rfl (by omega)))⟩⟩
      | exit id =>
        obtain ⟨hk3, hkp3, hi3⟩ := hp
        obtain ⟨hr, hl3, hl4, hk4⟩ := fin (some (.exit id)) W3 hk3
        exact ⟨_, _, hr, .inr ⟨rfl, ⟨.exit id, (hIx _).putObj _ hi3 (by omega) hl3 rfl, hl4, hk4⟩, hKt hkpa (hKt (hKt hw2 hkp3) (hKb _ _ _ _ hl3 rfl (by omega)))⟩⟩
      | goto t =>
        obtain ⟨hk3, hkp3, hi3⟩ := hp
        obtain ⟨hr, hl3, hl4, hk4⟩ := fin (some (.goto t)) W3 hk3
        exact ⟨_, _, hr, .inr ⟨rfl, ⟨.goto t, (hIx _).putObj _ hi3 (by omega) hl3 rfl, hl4, hk4⟩, hKt hkpa (hKt (hKt hw2 hkp3) (hKb _ _ _ _ hl3 rfl (by omega)))⟩⟩
      | panic ch => exact hp.elim
      | outgrown => exact hp.elim
    · rintro e W2 ⟨⟨v, rfl⟩, (⟨hi, hl, hk⟩ | ⟨pre, hpre, c, hi, hl, hk⟩)⟩
      · exact ⟨none, _, by have := run_endLoop (P := P) hl (by rw [hrec]; simp); rw [hrec] at this; exact this, hdone _ _ (Nat.le_refl _) (hI.putObj _ hi (by omega) hl rfl) ((World.putObj_heap_other (by omega)).trans hk)⟩
      · exact ⟨some c, _, by have := run_endLoop (P := P) hl (by rw [hrec]; simp); rw [hrec] at this; exact this, hstop _ c pre _ (Nat.le_refl _) hpre ((hIx c).putObj _ hi (by omega) hl rfl) ((World.putObj_heap_other (by omega)).trans hk)⟩
end
theorem Rd.cells {α : Type} {E : World → α → List Value → Prop} {sz : Nat} {w : World} {b o : Nat} {xs : List α} (h : Rd E sz w (some ⟨b, o, none⟩) xs) :
    ∃ news, Reps (E w) sz xs news ∧ ∀ j u, news[j]? = some u → w.cell? ⟨b, o + j, none⟩ = some u := by
  have key : ∀ n, n ≤ xs.length → ∃ news, Reps (E w) sz (xs.take n) news ∧ ∀ j u, news[j]? = some u → w.cell? ⟨b, o + j, none⟩ = some u := by
    intro n
    induction n with
    | zero => intro _; exact ⟨[], by rw [List.take_zero]; exact Reps.nil _ _, fun j u hj => by simp at hj⟩
    | succ n ih =>
      intro hn
      obtain ⟨news, hr, hc⟩ := ih (by omega)
      obtain ⟨b', o', cs, e, he, hl, hcs⟩ := h.2 n _ (List.getElem?_eq_getElem (show n < xs.length by omega))
      cases e
      refine ⟨news ++ cs, ?_, fun j u hj => ?_⟩
      · rw [List.take_succ_eq_append_getElem (show n < xs.length by omega)]
        exact hr.snoc he hl
      · have hnl : news.length = n * sz := by rw [hr.1, List.length_take, Nat.min_eq_left (by omega)]
        rcases Nat.lt_or_ge j news.length with hj' | hj'
        · rw [List.getElem?_append_left hj'] at hj
          exact hc j u hj
        · rw [List.getElem?_append_right hj'] at hj
          have := hcs _ u hj
          rw [show o + n * sz + (j - news.length) = o + j by omega] at this
          exact this
  have := key xs.length (Nat.le_refl _)
  rwa [List.take_length] at this
theorem Rd.none_nil {α : Type} {E : World → α → List Value → Prop} {sz : Nat} {w : World} {xs : List α} (h : Rd E sz w none xs) : xs = [] := by
  rcases Nat.eq_zero_or_pos xs.length with h0 | h0
  · exact List.eq_nil_of_length_eq_zero h0
  · obtain ⟨b, o, cs, e, _⟩ := h.2 0 _ (List.getElem?_eq_getElem h0)
    cases e
theorem Reps.app {α : Type} {R : α → List Value → Prop} {sz : Nat} {ps qs : List α} {cs ds : List Value} (h : Reps R sz ps cs) (k : Reps R sz qs ds) : Reps R sz (ps ++ qs) (cs ++ ds) := by
  refine ⟨by rw [List.length_append, List.length_append, h.1, k.1, Nat.add_mul], fun j q hq => ?_⟩
  rcases Nat.lt_or_ge j ps.length with hj | hj
  · rw [List.getElem?_append_left hj] at hq
    have h1 : j * sz + sz ≤ cs.length := by rw [h.1, ← Nat.succ_mul]; exact Nat.mul_le_mul_right _ hj
    rw [List.drop_append_of_le_length (by omega), List.take_append_of_le_length (by rw [List.length_drop]; omega)]
    exact h.2 j q hq
  · rw [List.getElem?_append_right hj] at hq
    have h1 := k.2 _ q hq
    have h2 : (j - ps.length) * sz = j * sz - cs.length := by rw [h.1, Nat.sub_mul]
    have h3 : cs.length ≤ j * sz := by rw [h.1]; exact Nat.mul_le_mul_right _ hj
    rw [List.drop_append, List.drop_eq_nil_of_le h3, List.nil_append, ← h2]
    exact h1
def One {α : Type} (E : World → α → List Value → Prop) : Prop := ∀ w x cs, E w x cs → ∀ u ∈ cs, u.oneCell' = true
theorem EI.one : One EI := by rintro w x cs rfl; simp [Value.oneCell']
theorem EG.one : One EG := by rintro w x cs ⟨A, c, rfl, _⟩; simp [Value.oneCell']
theorem EM.one : One EM := by rintro w x cs ⟨A, c, rfl, _⟩; simp [Value.oneCell']
theorem EL.one : One EL := by rintro w x cs ⟨A, c, rfl, _⟩; simp [Value.oneCell']
theorem EGo.one (ti B : Nat) : One (EGo ti B) := by
  rintro w x cs ⟨v, rfl, h⟩
  obtain ⟨A, c, rfl, _⟩ := h.form
  simp [Value.oneCell']
theorem EMo.one (ti B : Nat) : One (EMo ti B) := by
  rintro w x cs ⟨v, rfl, h⟩
  obtain ⟨A, c, rfl, _⟩ := h.form
  simp [Value.oneCell']
theorem ELo.one (ti B : Nat) : One (ELo ti B) := by
  rintro w x cs ⟨v, rfl, h⟩
  obtain ⟨A, c, rfl, _⟩ := h.form
  simp [Value.oneCell']
theorem Reps.one {α : Type} {E : World → α → List Value → Prop} {sz : Nat} {w : World} {xs : List α} {cs : List Value} (hE : One E) (hs : 0 < sz) (h : Reps (E w) sz xs cs) : ∀ u ∈ cs, u.oneCell' = true := by
  intro u hu
  obtain ⟨i, hi, rfl⟩ := List.getElem_of_mem hu
  have hq : i / sz < xs.length := by rw [Nat.div_lt_iff_lt_mul hs, ← h.1]; exact hi
  refine hE w _ _ (h.2 (i / sz) _ (List.getElem?_eq_getElem hq)) _ ?_
  have hm := Nat.mod_lt i hs
  have hd : i / sz * sz + i % sz = i := by rw [Nat.mul_comm]; exact Nat.div_add_mod i sz
  refine List.mem_of_getElem? (i := i % sz) ?_
  rw [List.getElem?_take, if_pos hm, List.getElem?_drop, hd, List.getElem?_eq_getElem hi]
section
variable {P : Program} {ops : Array Oper} {rest : List Oper} {o : Oper} {a : Act} {Q : Exit → Act → World → Prop}
theorem run_apps {α : Type} {E E' : World → α → List Value → Prop} {W : World} (hE1 : One E') (hEE : ∀ x cs, E' W x cs → E W x cs) (T sz B : Nat) (t ty : TypeId) (z : Value) (bytes : Nat)
    (ht : P.underlying t = some (.slice T)) (hinfo : (P.info? T).map (fun i => (i.zero, i.size, i.bytes)) = some (some z, sz, bytes)) (hz : z.cells.size = sz) (hs0 : 0 < sz) (hb0 : 0 < bytes)
    (v : Value) (xs ys : List α) (A : Option Addr) (c : Nat)
    (HR : Rd E' sz W A ys) (HO : App E T sz B W v xs) (hB : B ≤ W.heap.size) (hl : (xs.length + ys.length) * bytes ≤ 140737488355328)
    (hE : ∀ w1 n cs, W.ownsRow B T sz v n cs → W.grownBy w1 v.ownBlock → ∀ x cs, E W x cs → E w1 x cs) :
    ∃ v1 w1, (Builtin.append_ #[t, t] ty #[v, .slice A ys.length c]).run P W = .ok v1 w1 ∧ App E T sz B w1 v1 (xs ++ ys) ∧ W.grownBy w1 v.ownBlock := by
  obtain ⟨i0, hi, hzz⟩ := Option.map_eq_some_iff.1 hinfo
  simp only [Prod.mk.injEq] at hzz
  obtain ⟨hz0, hz1, hz2⟩ := hzz
  obtain ⟨cs, hown, hrep⟩ := HO
  have hlen : xs.length + ys.length ≤ 140737488355328 := Nat.le_trans (Nat.le_mul_of_pos_right _ hb0) hl
  rcases hA : A with _ | ad
  · subst hA
    have hy := HR.none_nil
    subst hy
    refine ⟨v, W, ?_, by simpa using ⟨cs, hown, hrep⟩, World.grownBy.refl W _⟩
    rcases hown.2 with ⟨rfl, hn⟩ | ⟨g, cap, cur, rfl, _, _, hnc, _⟩
    · simp [Builtin.append_, run_underlying ht, sizeOf, typeInfo, hi, Builtin.lenOf, Builtin.firstCells]
    · simp [Builtin.append_, run_underlying ht, sizeOf, typeInfo, hi, Builtin.lenOf, Builtin.firstCells, hnc, storeCells]
  · subst hA
    have hnews : ∃ news, Reps (E' W) sz ys news ∧ ∀ j u, news[j]? = some u → W.cell? (ad.add j) = some u := by
      rcases Nat.eq_zero_or_pos ys.length with h0 | h0
      · have : ys = [] := List.eq_nil_of_length_eq_zero h0
        subst this
        exact ⟨[], Reps.nil _ _, fun j u hj => by simp at hj⟩
      · obtain ⟨b, o, cs, e, _⟩ := HR.2 0 _ (List.getElem?_eq_getElem h0)
        cases e
        obtain ⟨news, hr, hc⟩ := HR.cells
        refine ⟨news, hr, fun j u hj => ?_⟩
        have ha : (⟨b, o, none⟩ : Addr).add j = ⟨b, o + j, none⟩ := by unfold Addr.add; split <;> simp_all
        rw [ha]
        exact hc j u hj
    obtain ⟨news, hr, hc⟩ := hnews
    obtain ⟨v1, w1, h1, h2, h3, _, _⟩ := run_append_own_at (P := P) W B t ty T i0 z sz bytes ht hi hz0 hz1 hz2 hz hs0 v xs.length cs hown ad ys.length c news hr.1 hc (hr.one hE1 hs0) (by simp only [maxLen]; omega) hl hB
    exact ⟨v1, w1, h1, ⟨cs ++ news, by simpa using h2, (hrep.imp (hE w1 _ _ hown h3)).app ((hr.imp hEE).imp (hE w1 _ _ hown h3))⟩, h3⟩
theorem wp_apps {α : Type} {E E' : World → α → List Value → Prop} {W : World} (hE1 : One E') (hEE : ∀ x cs, E' W x cs → E W x cs) (T sz B : Nat) (hgd : o.guard = none) (s x : Operand) (t : TypeId) (z : Value) (bytes : Nat)
    (ho : o.op = .call { callee := .builtin .append, args := #[s, x], argTypes := #[t, t] })
    (ht : P.underlying t = some (.slice T)) (hinfo : (P.info? T).map (fun i => (i.zero, i.size, i.bytes)) = some (some z, sz, bytes)) (hz : z.cells.size = sz) (hs0 : 0 < sz) (hb0 : 0 < bytes)
    (v : Value) (xs ys : List α) (A : Option Addr) (c : Nat) (hs : a.eval s = v) (hx : a.eval x = .slice A ys.length c)
    (HR : Rd E' sz W A ys) (HO : App E T sz B W v xs) (hB : B ≤ W.heap.size) (hl : (xs.length + ys.length) * bytes ≤ 140737488355328)
    (hE : ∀ w1 n cs, W.ownsRow B T sz v n cs → W.grownBy w1 v.ownBlock → ∀ x cs, E W x cs → E w1 x cs)
    (h : ∀ v1 w1, App E T sz B w1 v1 (xs ++ ys) → W.grownBy w1 v.ownBlock → wpList P ops Q rest (a.put o.dst v1) w1) :
    wpList P ops Q (o :: rest) a W := by
  obtain ⟨v1, w1, h1, h2, h3⟩ := run_apps (P := P) hE1 hEE T sz B t o.type z bytes ht hinfo hz hs0 hb0 v xs ys A c HR HO hB hl hE
  refine wpList_plain hgd fun K hK => ?_
  unfold Oper.wp execOp
  simp only [ho, resolve, invoke, builtin, Sem.run_bind, Sem.run_pure, Result.andThen_ok, List.map_toArray, List.map_cons, List.map_nil, hs, hx, h1]
  exact hK _ _ (h v1 w1 h2 h3)
end
theorem App.lit {α : Type} {E : World → α → List Value → Prop} {T sz B : Nat} {w : World} {xs : List α} {cs : List Value} (hB : B ≤ w.heap.size) (hl : xs.length ≤ 9223372036854775807) (hr : Reps (E (w.alloc (.cells cs.toArray T))) sz xs cs) :
    App E T sz B (w.alloc (.cells cs.toArray T)) (.slice (some ⟨w.heap.size, 0, none⟩) xs.length xs.length) xs := by
  refine ⟨cs, ?_, hr⟩
  have h := World.ownsRow_lit (base := B) (e := T) (size := sz) w cs.toArray xs.length hB (by simpa [maxLen] using hl) (by simpa using hr.1)
  simpa using h
theorem App.empty {α : Type} (E : World → α → List Value → Prop) (T sz B : Nat) (w : World) (hB : B ≤ w.heap.size) : App E T sz B (w.alloc (.cells #[] T)) (.slice (some ⟨w.heap.size, 0, none⟩) 0 0) [] :=
  App.lit (xs := []) (cs := []) hB (by simp) (Reps.nil _ _)
def idx : List Int → Int → Int → Int
  | [], _, _ => -1
  | y :: l, x, k => if x = y then k else idx l x (k + 1)
theorem idx_nonneg (l : List Int) (x : Int) : ∀ k, 0 ≤ k → (0 ≤ idx l x k ↔ x ∈ l) := by
  induction l with
  | nil => intro k hk; simp [idx]
  | cons y l ih =>
    intro k hk
    unfold idx
    by_cases h : x = y
    · simp [h, hk]
    · rw [if_neg h, ih _ (by omega)]; simp [h]
theorem drop_cons {α : Type} (l : List α) (k : Nat) (hk : k < l.length) : l.drop k = l[k] :: l.drop (k + 1) := by
  rw [List.drop_eq_getElem_cons hk]
theorem drop_eq_iff {α : Type} (xs ys : List α) (k : Nat) (h : k < xs.length) (h' : k < ys.length) : (xs.drop k = ys.drop k) = (xs[k] = ys[k] ∧ xs.drop (k + 1) = ys.drop (k + 1)) := by
  rw [drop_cons xs k h, drop_cons ys k h', List.cons.injEq]
theorem drop_end {α : Type} (l : List α) (k : Nat) (hk : l.length ≤ k) : l.drop k = [] := List.drop_eq_nil_of_le hk
theorem Index_any (A : Option Addr) (c : Nat) (xs : List Int) (x : Int) (w : World) (h : RdI w A xs) :
    Calls Tryz.prog 147 #[.slice A xs.length c, .int .i64 x] w fun e w' => e = .returned (.int .i64 (idx xs x 0)) ∧ w = w' := by
  have hl := h.1
  go_enter Tryz.func147, Tryz.ntmps147
  go_wp2
  go_loop [5, 8] (fun _ i => ∃ k : Nat, k ≤ xs.length ∧ i = .int .i64 k ∧ idx xs x 0 = idx (xs.drop k) x k) (fun _ i => xs.length - (intOf i).toNat)
  case atStart => exact ⟨0, Nat.zero_le _, rfl, by simp⟩
  case round =>
    obtain ⟨k, hk, rfl, hi⟩ := hrel
    by_cases hlt : k < xs.length
    · obtain ⟨b, o, rfl, hc⟩ := h.int k hlt
      rw [drop_cons xs k hlt, idx] at hi
      have HI := Lib.hid hi
      clear hi h
      by_cases hx : x = xs[k]
      · have h1 : (x == xs[k]) = true := by simp [hx]
        have HX := Lib.hid hx
        clear hx
        go_wp2
        go_ret
        exact ⟨ret_int (by rw [HI.out, if_pos HX.out]), rfl⟩
      · have h1 : (x == xs[k]) = false := by simp [hx]
        have HX := Lib.hid hx
        clear hx
        go_wp2
        go_round
        case rel => exact ⟨k + 1, by omega, by go_num, by rw [HI.out, if_neg HX.out]; rfl⟩
        case measure => simp [intOf]; omega
    · have HI := Lib.hid hi
      clear hi
      go_wp2
      go_ret
      exact ⟨ret_int (by rw [HI.out, drop_end xs k (by omega)]; rfl), rfl⟩
theorem Contains_any (A : Option Addr) (c : Nat) (xs : List Int) (x : Int) (w : World) (h : RdI w A xs) :
    Calls Tryz.prog 117 #[.slice A xs.length c, .int .i64 x] w fun e w' => e = .returned (.bool (decide (x ∈ xs))) ∧ w = w' := by
  go_enter Tryz.func117, Tryz.ntmps117
  go_wp2_with (go_at_call 147; refine (Index_any _ _ _ _ _ h).mono ?_; rintro e w' ⟨rfl, rfl⟩)
  go_ret
  exact ⟨ret_bool (by simp only [idx_nonneg xs x 0 (by omega)]), rfl⟩
theorem Contains_n (A : Option Addr) (n c : Nat) (xs : List Int) (x : Int) (w : World) (h : RdI w A xs) (hn : xs.length = n) :
    Calls Tryz.prog 117 #[.slice A n c, .int .i64 x] w fun e w' => e = .returned (.bool (decide (x ∈ xs))) ∧ w = w' := by
  subst hn
  exact Contains_any A c xs x w h
theorem Equal_any (A B : Option Addr) (c d : Nat) (xs ys : List Int) (w : World) (h : RdI w A xs) (h' : RdI w B ys) :
    Calls Tryz.prog 107 #[.slice A xs.length c, .slice B ys.length d] w fun e w' => e = .returned (.bool (decide (xs = ys))) ∧ ∃ n, w' = w.drewN n := by
  have hl := h.1
  have hl' := h'.1
  by_cases hn : xs.length = ys.length
  · have hn1 : ((xs.length : Int) != (ys.length : Int)) = false := by simp [hn]
    have HN := Lib.hid hn
    have hle : xs.length ≤ ys.length := by omega
    clear hn
    go_enter Tryz.func107, Tryz.ntmps107
    go_wp2
    go_loopw [5, 13] (fun _ i wr => ∃ k : Nat, k ≤ xs.length ∧ i = .int .i64 k ∧ Hid (decide (xs = ys) = decide (xs.drop k = ys.drop k)) ∧ ∃ n, wr = w.drewN n) (fun _ i _ => xs.length - (intOf i).toNat)
    case atStart => exact ⟨0, Nat.zero_le _, rfl, Lib.hid (by simp), 0, rfl⟩
    case round =>
      obtain ⟨k, hk, rfl, HI, n, rfl⟩ := hrel
      by_cases hlt : k < xs.length
      · have hlt' : k < ys.length := by omega
        obtain ⟨b, o, rfl, hc⟩ := h.int k hlt
        obtain ⟨b', o', rfl, hc'⟩ := h'.int k hlt'
        clear h h'
        by_cases hx : xs[k] = ys[k]
        · have h1 : (xs[k] != ys[k]) = false := by simp [hx]
          have HX := Lib.hid hx
          clear hx
          go_wp2
          go_quiet (fail)
          go_wp2
          go_roundw
          case rel => exact ⟨k + 1, by omega, by go_num, Lib.hid (by rw [HI.out, decide_eq_decide, drop_eq_iff xs ys k hlt hlt']; exact ⟨fun h => h.2, fun h => ⟨HX.out, h⟩⟩), ⟨_, rfl⟩⟩
          case measure => simp [intOf]; omega
        · have h1 : (xs[k] != ys[k]) = true := by simp [hx]
          have HX := Lib.hid hx
          clear hx
          go_wp2
          go_quiet (fail)
          go_wp2
          go_ret
          exact ⟨ret_bool (by rw [HI.out, eq_comm, decide_eq_false_iff_not, drop_eq_iff xs ys k hlt hlt']; exact fun h => HX.out h.1), ⟨_, World.drewN_drewN ..⟩⟩
      · go_wp2
        go_ret
        exact ⟨ret_bool (by have := HN.out; rw [HI.out, drop_end xs k (by omega), drop_end ys k (by omega)]; rfl), ⟨_, rfl⟩⟩
  · have hn1 : ((xs.length : Int) != (ys.length : Int)) = true := by simp; omega
    have HN := Lib.hid hn
    clear hn
    go_enter Tryz.func107, Tryz.ntmps107
    go_wp2
    go_ret
    exact ⟨ret_bool (by rw [eq_comm, decide_eq_false_iff_not]; exact fun e => HN.out (by rw [e])), 0, rfl⟩
end Go.Proofs.YtfommmijojfdbaaGreatDoor
