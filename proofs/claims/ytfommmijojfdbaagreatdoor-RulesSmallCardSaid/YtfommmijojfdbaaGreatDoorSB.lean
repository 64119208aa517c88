/- Short words for walks of drawn regions: what a step of a tree asks is proved where it stands. -/
import Derived.Test.YtfommmijojfdbaaGreatDoorZ03
import Derived.Test.YtfommmijojfdbaaGreatDoorZ04
set_option linter.all false
namespace Go.Proofs.YtfommmijojfdbaaGreatDoor
open Go.RowKit

theorem gs {p : Prop} (h : p := by first|(go_simp;done)|(go_simp;with_reducible rfl)|(go_simp;constructor<;>with_reducible rfl)|(go_simp;exact ⟨⟨rfl, rfl⟩, rfl⟩)) : p := h
theorem bl {n : Nat} {w w' : World} (h : Below n w w' := by repeat (first|exact bR _ _|assumption|apply bN|apply bA|apply bD)) : Below n w w' := h
theorem bo {p : Prop} (h : p := by first|(simp;done)|(simp;omega)|omega) : p := h

theorem Rd.bL {w w1 : World} {A : Option Addr} {xs : List (List Int)} (h : RdL w A xs) (hb : Below w.heap.size w w1) : RdL w1 A xs := h.below EL.stays hb
/-- A row of steps whose wires lie in an elder world. -/
def EM0 (w0 : World) (_ : World) (s : M) (cs : List Value) : Prop := EM w0 s cs
theorem EM0.stays (w0 : World) : Stays (EM0 w0) := fun _ _ _ _ _ h => h
section
variable {P : Program} {ops : Array Oper}
theorem Stab.w {i : Nat} {a : Act} {w : World} {j : Nat} {v : Value} {ls : List (Nat × Value)} (h : Stab P ops i a w ls) (hw : waits ops i j = true := by kernel_rfl) : Stab P ops i a w ((j, v) :: ls) := ⟨nw hw, h⟩
theorem Stab.r {i : Nat} {a : Act} {w : World} {j : Nat} {v : Value} {ls : List (Nat × Value)} {o : Oper} {tl : List Oper} (h : Stab P ops i a w ls) (ho : ops.toList.drop j = o :: tl := by rfl) (hv : (execOp a.eval o).run P w = .ok (.value v) w := by first|(go_simp;done)|(go_simp;with_reducible rfl)) : Stab P ops i a w ((j, v) :: ls) := ⟨fun _ => ⟨o, drop_at ho, hv⟩, h⟩
theorem sb {i : Nat} {a : Act} {w : World} {ls : List (Nat × Value)} (h : Stab P ops i a w ls := by repeat (first|exact trivial|refine Stab.r ?_|refine Stab.w ?_)) : Stab P ops i a w ls := h
theorem ST.q {Q : Act → World → Prop} {i : Nat} {t : Ord_} {ls : List (Nat × Value)} {a : Act} {w : World} {o : Oper} {v : Value} {tl : List Oper} (h : ST P ops Q t ls (a.put o.dst v) w) (ho : ops.toList.drop i = o :: tl := by rfl) (hk : kindOp o.op = 0 := by rfl) (hw : Region.wanted o (yielded ops a.tmps) = true := by first|rfl|(simp [Region.wanted, yielded, *];done))
    (hv : ∀ W, (execOp a.eval o).run P W = .ok (.value v) W := by intro _; first|(go_simp;done)|(go_simp;with_reducible rfl)) : ST P ops Q (.op i t) ls a w := ST.p ho hk hw hv h
theorem ST.m {Q : Act → World → Prop} {i : Nat} {t : Ord_} {ls : List (Nat × Value)} {a : Act} {w : World} {o : Oper} {v : Value} {tl : List Oper} (h : ST P ops Q t ((i, v) :: ls) (a.put o.dst v) w) (ho : ops.toList.drop i = o :: tl := by rfl) (hk : kindOp o.op = 1 := by rfl) (hw : Region.wanted o (yielded ops a.tmps) = true := by first|rfl|(simp [Region.wanted, yielded, *];done))
    (hv : (execOp a.eval o).run P w = .ok (.value v) w := by first|(go_simp;done)|(go_simp;with_reducible rfl)) : ST P ops Q (.op i t) ls a w := ST.l ho hk hw hv h
theorem ST.n {Q : Act → World → Prop} {i : Nat} {t : Ord_} {ls : List (Nat × Value)} {a : Act} {w : World} {o : Oper} {tl : List Oper} (h : ST P ops Q t ls (a.put o.dst undef) w) (ho : ops.toList.drop i = o :: tl := by rfl) (hw : Region.wanted o (yielded ops a.tmps) = false := by first|rfl|(simp [Region.wanted, yielded, *];done)) : ST P ops Q (.op i t) ls a w := ST.s ho hw h
theorem ST.v1 {Q : Act → World → Prop} {b : Bool} {i : Nat} {t e : Ord_} {ls : List (Nat × Value)} {a : Act} {w w' : World} {o : Oper} {v : Value} {tl : List Oper} (h : ST P ops Q t ls (a.put o.dst v) w') (he : ST P ops Q e ls a w) (ho : ops.toList.drop i = o :: tl := by rfl) (hw : Region.wanted o (yielded ops a.tmps) = true := by first|rfl|(simp [Region.wanted, yielded, *];done))
    (hv : (execOp a.eval o).run P w = .ok (.value v) w' := by first|(go_simp;done)|(go_simp;with_reducible rfl)|(go_simp;constructor<;>with_reducible rfl)) (hs : Stab P ops i a w' ls := by repeat (first|exact trivial|refine Stab.r ?_|refine Stab.w ?_)) : ST P ops Q (.alt b i t e) ls a w := ST.v ho hw hv hs h he
theorem ST.k1 {Q : Act → World → Prop} {b : Bool} {i : Nat} {t e : Ord_} {ls : List (Nat × Value)} {a : Act} {w w' : World} {o : Oper} {tl : List Oper} (h : ST P ops Q t ls (a.put o.dst undef) w') (he : ST P ops Q e ls a w) (ho : ops.toList.drop i = o :: tl := by rfl) (hw : Region.wanted o (yielded ops a.tmps) = true := by first|rfl|(simp [Region.wanted, yielded, *];done))
    (hv : (execOp a.eval o).run P w = .ok .skip w' := by first|(go_simp;done)|(go_simp;with_reducible rfl)) (hs : Stab P ops i a w' ls := by repeat (first|exact trivial|refine Stab.r ?_|refine Stab.w ?_)) : ST P ops Q (.alt b i t e) ls a w := ST.k ho hw hv hs h he
theorem ST.c1 {Q : Act → World → Prop} {b : Bool} {i : Nat} {t e : Ord_} {ls : List (Nat × Value)} {a : Act} {w w' : World} {o : Oper} {f : FuncId} {args : Array Value} {tl : List Oper} (h : Calls P f args w' fun e w'' => ∃ v, e = .returned v ∧ Stab P ops i a w'' ls ∧ ST P ops Q t ls (a.put o.dst v) w'') (he : ST P ops Q e ls a w) (ho : ops.toList.drop i = o :: tl := by rfl) (hw : Region.wanted o (yielded ops a.tmps) = true := by first|rfl|(simp [Region.wanted, yielded, *];done))
    (hv : (execOp a.eval o).run P w = .ok (.enter f args) w' := by first|(go_simp;done)|(go_simp;with_reducible rfl)|(go_simp;exact ⟨⟨rfl, rfl⟩, rfl⟩)) : ST P ops Q (.alt b i t e) ls a w := ST.c ho hw hv h he
theorem ST.app {α : Type} {E : World → α → List Value → Prop} {W : World} (T sz B : Nat) {Q : Act → World → Prop} {b : Bool} {i : Nat} {t' e : Ord_} {ls : List (Nat × Value)} {a : Act} {o : Oper} {tl : List Oper}
    (s x : Operand) (t : TypeId) (z : Value) (bytes : Nat) (ho : ops.toList.drop i = o :: tl) (hw : Region.wanted o (yielded ops a.tmps) = true)
    (hop : o.op = .call { callee := .builtin .append, args := #[s, x], argTypes := #[t, t] })
    (ht : P.underlying t = some (.slice T)) (hinfo : (P.info? T).map (fun i => (i.zero, i.size, i.bytes)) = some (some z, sz, bytes)) (hz : z.cells.size = sz) (hs0 : 0 < sz) (hb0 : 0 < bytes)
    (v : Value) (xs : List α) (p : α) (ys : List Value) (hs : a.eval s = v) (hx : a.eval x = .slice (some ⟨W.heap.size, 0, none⟩) 1 1) (hys : ys.length = sz) (h1 : ∀ u ∈ ys, u.oneCell' = true)
    (hp : E W p ys) (HO : App E T sz B W v xs) (hB : B ≤ W.heap.size) (hl : (xs.length + 1) * bytes ≤ 140737488355328)
    (hE : ∀ w1 n cs, W.ownsRow B T sz v n cs → W.grownBy w1 v.ownBlock → ∀ x cs, E W x cs → E w1 x cs)
    (h : ∀ v1 w1, App E T sz B w1 v1 (xs ++ [p]) → W.grownBy w1 v.ownBlock → Stab P ops i a w1 ls ∧ ST P ops Q t' ls (a.put o.dst v1) w1) (he : ST P ops Q e ls a (W.alloc (.cells ys.toArray T))) :
    ST P ops Q (.alt b i t' e) ls a (W.alloc (.cells ys.toArray T)) := by
  obtain ⟨v1, w1, hr, h2, h3⟩ := run_app1 (P := P) T sz B t o.type z bytes ht hinfo hz hs0 hb0 v xs p ys hys h1 hp HO hB hl hE
  obtain ⟨k1, k2⟩ := h v1 w1 h2 h3
  refine ST.v (v := v1) (w' := w1) ho hw ?_ k1 k2 he
  unfold execOp
  simp only [hop, resolve, invoke, builtin, Sem.run_bind, Sem.run_pure, Result.andThen_ok, List.map_toArray, List.map_cons, List.map_nil, hs, hx, hr]
theorem ST.apps {α : Type} {E E' : World → α → List Value → Prop} {W : World} (hE1 : One E') (hEE : ∀ x cs, E' W x cs → E W x cs) (T sz B : Nat) {Q : Act → World → Prop} {b : Bool} {i : Nat} {t' e : Ord_} {ls : List (Nat × Value)} {a : Act} {o : Oper} {tl : List Oper}
    (s x : Operand) (t : TypeId) (z : Value) (bytes : Nat) (ho : ops.toList.drop i = o :: tl) (hw : Region.wanted o (yielded ops a.tmps) = true)
    (hop : o.op = .call { callee := .builtin .append, args := #[s, x], argTypes := #[t, t] })
    (ht : P.underlying t = some (.slice T)) (hinfo : (P.info? T).map (fun i => (i.zero, i.size, i.bytes)) = some (some z, sz, bytes)) (hz : z.cells.size = sz) (hs0 : 0 < sz) (hb0 : 0 < bytes)
    (v : Value) (xs ys : List α) (A : Option Addr) (c : Nat) (hs : a.eval s = v) (hx : a.eval x = .slice A ys.length c)
    (HR : Rd E' sz W A ys) (HO : App E T sz B W v xs) (hB : B ≤ W.heap.size) (hl : (xs.length + ys.length) * bytes ≤ 140737488355328)
    (hE : ∀ w1 n cs, W.ownsRow B T sz v n cs → W.grownBy w1 v.ownBlock → ∀ x cs, E W x cs → E w1 x cs)
    (h : ∀ v1 w1, App E T sz B w1 v1 (xs ++ ys) → W.grownBy w1 v.ownBlock → Stab P ops i a w1 ls ∧ ST P ops Q t' ls (a.put o.dst v1) w1) (he : ST P ops Q e ls a W) :
    ST P ops Q (.alt b i t' e) ls a W := by
  obtain ⟨v1, w1, hr, h2, h3⟩ := run_apps (P := P) hE1 hEE T sz B t o.type z bytes ht hinfo hz hs0 hb0 v xs ys A c HR HO hB hl hE
  obtain ⟨k1, k2⟩ := h v1 w1 h2 h3
  refine ST.v (v := v1) (w' := w1) ho hw ?_ k1 k2 he
  unfold execOp
  simp only [hop, resolve, invoke, builtin, Sem.run_bind, Sem.run_pure, Result.andThen_ok, List.map_toArray, List.map_cons, List.map_nil, hs, hx, hr]
end
end Go.Proofs.YtfommmijojfdbaaGreatDoor
