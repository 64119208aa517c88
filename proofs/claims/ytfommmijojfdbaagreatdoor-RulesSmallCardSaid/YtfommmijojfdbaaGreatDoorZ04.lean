/- Part 5 of the proof that 'spoondriftlaw19.RulesApplies' holds for every input; it has no condition beyond the statement's own. -/
import Derived.Test.YtfommmijojfdbaaGreatDoorZ02
import Derived.Laws.Rows
import Derived.Laws.CopyOwn
import Derived.Test.YtfommmijojfdbaaGreatDoorZ01
import Derived.Shelf.Abstract
import Derived.Shelf.RegionOpen
import Derived.OwnWalkIn
import Derived.TacticsInMore
import Derived.LoopNIn
import Derived.LoopIn
import Derived.IntWalk
set_option linter.all false
namespace Go.Proofs.YtfommmijojfdbaaGreatDoor
open Go.RowKit
def PredG (w : World) (gf : Nat) (lb : Array Value) (gs : List G) (p : G → Bool) : Prop :=
  ∀ g A c w1, g ∈ gs → RdI w1 A g.wires → g.wires.length ≤ c → Below w.heap.size w w1 → Calls Tryz.prog gf (#[.agg #[.int .i64 g.kind, .slice A g.wires.length c, .int .i64 g.bit, .int .i64 g.cif]] ++ lb) w1 fun e w2 => e = .returned (.bool (p g)) ∧ Below w1.heap.size w1 w2
def PredM (w : World) (gf : Nat) (lb : Array Value) (gs : List M) (p : M → Bool) : Prop :=
  ∀ g A c w1, g ∈ gs → RdI w1 A g.wires → g.wires.length ≤ c → Below w.heap.size w w1 → Calls Tryz.prog gf (#[.agg #[.int .i64 g.rule, .int .i64 g.at_, .bool g.back, .slice A g.wires.length c]] ++ lb) w1 fun e w2 => e = .returned (.bool (p g)) ∧ Below w1.heap.size w1 w2
def PredI (w : World) (gf : Nat) (lb : Array Value) (gs : List Int) (p : Int → Bool) : Prop :=
  ∀ g w1, g ∈ gs → Below w.heap.size w w1 → Calls Tryz.prog gf (#[.int .i64 g] ++ lb) w1 fun e w2 => e = .returned (.bool (p g)) ∧ Below w1.heap.size w1 w2
def idxBy {α : Type} (p : α → Bool) : List α → Int → Int
  | [], _ => -1
  | y :: l, k => if p y = true then k else idxBy p l (k + 1)
theorem idxBy_nonneg {α : Type} (p : α → Bool) (l : List α) : ∀ k, 0 ≤ k → (0 ≤ idxBy p l k ↔ l.any p = true) := by
  induction l with
  | nil => intro k hk; simp [idxBy]
  | cons y l ih =>
    intro k hk
    unfold idxBy
    by_cases h : p y = true
    · simp [h, hk]
    · rw [if_neg h, ih _ (by omega)]; simp [h]
set_option maxHeartbeats 1000000 in
theorem IndexFuncG_any (A : Option Addr) (c : Nat) (gs : List G) (gf : Nat) (lb : Array Value) (p : G → Bool) (w : World) (h : RdG w A gs) (hp : PredG w gf lb gs p)
    (eg : ∀ args w, (callFunc gf args).run Tryz.prog w = .ok (.enter gf args) w) :
    Calls Tryz.prog 95 #[.slice A gs.length c, .func (.func gf) #[] lb] w fun e w' => e = .returned (.int .i64 (idxBy p gs 0)) ∧ Below w.heap.size w w' := by
  have hl := h.1
  have HP := Lib.hid hp
  clear hp
  go_enter Tryz.func95, Tryz.ntmps95
  go_wp2
  go_loopw [5, 8] (fun _ i wr => ∃ k : Nat, k ≤ gs.length ∧ i = .int .i64 k ∧ Hid (idxBy p gs 0 = idxBy p (gs.drop k) k) ∧ Below w.heap.size w wr) (fun _ i _ => gs.length - (intOf i).toNat)
  case atStart => exact ⟨0, Nat.zero_le _, rfl, Lib.hid (by simp), Below.refl _ _⟩
  case round =>
    obtain ⟨k, hk, rfl, HI, hB⟩ := hrel
    by_cases hlt : k < gs.length
    · obtain ⟨b, o, B, cB, rfl, h0, h1, h2, h3, hc, hw⟩ := (h.bG hB).gate k hlt; have HC := HP.out gs[k] B cB wr (List.getElem_mem hlt) hw hc hB
      by_cases hx : p gs[k] = true
      · simp only [hx] at HC
        have HX := Lib.hid hx
        replace HC := Lib.hid HC
        clear hx
        go_wp2_with fail
        refine HC.out.mono ?_
        rintro e w2 ⟨rfl, hb⟩
        go_wp2
        go_ret
        exact ⟨ret_int (by rw [HI.out, drop_cons gs k hlt, idxBy, if_pos HX.out]), hB.trans (hb.mono hB.size)⟩
      · simp only [Bool.not_eq_true] at hx
        simp only [hx] at HC
        have HX := Lib.hid hx
        replace HC := Lib.hid HC
        clear hx
        go_wp2_with fail
        refine HC.out.mono ?_
        rintro e w2 ⟨rfl, hb⟩
        go_wp2
        go_roundw
        case rel => exact ⟨k + 1, by omega, by go_num, Lib.hid (by rw [HI.out, drop_cons gs k hlt, idxBy, if_neg (by rw [HX.out]; simp)]; rfl), hB.trans (hb.mono hB.size)⟩
        case measure => simp [intOf]; omega
    · go_wp2
      go_ret
      exact ⟨ret_int (by rw [HI.out, drop_end gs k (by omega)]; rfl), hB⟩
theorem ContainsFuncG_any (A : Option Addr) (c : Nat) (gs : List G) (gf : Nat) (lb : Array Value) (p : G → Bool) (w : World) (h : RdG w A gs) (hp : PredG w gf lb gs p)
    (eg : ∀ args w, (callFunc gf args).run Tryz.prog w = .ok (.enter gf args) w) :
    Calls Tryz.prog 54 #[.slice A gs.length c, .func (.func gf) #[] lb] w fun e w' => e = .returned (.bool (gs.any p)) ∧ Below w.heap.size w w' := by
  have HP := Lib.hid hp
  clear hp
  go_enter Tryz.func54, Tryz.ntmps54
  go_wp2_with fail
  refine (IndexFuncG_any _ _ _ _ _ _ _ h HP.out eg).mono ?_
  rintro e w' ⟨rfl, hb⟩
  go_wp2
  go_ret
  exact ⟨ret_bool (by rw [Bool.eq_iff_iff, decide_eq_true_eq, idxBy_nonneg p gs 0 (by omega)]), hb⟩
set_option maxHeartbeats 1000000 in
theorem IndexFuncM_any (A : Option Addr) (c : Nat) (gs : List M) (gf : Nat) (lb : Array Value) (p : M → Bool) (w : World) (h : RdM w A gs) (hp : PredM w gf lb gs p)
    (eg : ∀ args w, (callFunc gf args).run Tryz.prog w = .ok (.enter gf args) w) :
    Calls Tryz.prog 94 #[.slice A gs.length c, .func (.func gf) #[] lb] w fun e w' => e = .returned (.int .i64 (idxBy p gs 0)) ∧ Below w.heap.size w w' := by
  have hl := h.1
  have HP := Lib.hid hp
  clear hp
  go_enter Tryz.func94, Tryz.ntmps94
  go_wp2
  go_loopw [5, 8] (fun _ i wr => ∃ k : Nat, k ≤ gs.length ∧ i = .int .i64 k ∧ Hid (idxBy p gs 0 = idxBy p (gs.drop k) k) ∧ Below w.heap.size w wr) (fun _ i _ => gs.length - (intOf i).toNat)
  case atStart => exact ⟨0, Nat.zero_le _, rfl, Lib.hid (by simp), Below.refl _ _⟩
  case round =>
    obtain ⟨k, hk, rfl, HI, hB⟩ := hrel
    by_cases hlt : k < gs.length
    · obtain ⟨b, o, B, cB, rfl, h0, h1, h2, h3, hc, hw⟩ := (h.bM hB).move k hlt; have HC := HP.out gs[k] B cB wr (List.getElem_mem hlt) hw hc hB
      by_cases hx : p gs[k] = true
      · simp only [hx] at HC
        have HX := Lib.hid hx
        replace HC := Lib.hid HC
        clear hx
        go_wp2_with fail
        refine HC.out.mono ?_
        rintro e w2 ⟨rfl, hb⟩
        go_wp2
        go_ret
        exact ⟨ret_int (by rw [HI.out, drop_cons gs k hlt, idxBy, if_pos HX.out]), hB.trans (hb.mono hB.size)⟩
      · simp only [Bool.not_eq_true] at hx
        simp only [hx] at HC
        have HX := Lib.hid hx
        replace HC := Lib.hid HC
        clear hx
        go_wp2_with fail
        refine HC.out.mono ?_
        rintro e w2 ⟨rfl, hb⟩
        go_wp2
        go_roundw
        case rel => exact ⟨k + 1, by omega, by go_num, Lib.hid (by rw [HI.out, drop_cons gs k hlt, idxBy, if_neg (by rw [HX.out]; simp)]; rfl), hB.trans (hb.mono hB.size)⟩
        case measure => simp [intOf]; omega
    · go_wp2
      go_ret
      exact ⟨ret_int (by rw [HI.out, drop_end gs k (by omega)]; rfl), hB⟩
theorem ContainsFuncM_any (A : Option Addr) (c : Nat) (gs : List M) (gf : Nat) (lb : Array Value) (p : M → Bool) (w : World) (h : RdM w A gs) (hp : PredM w gf lb gs p)
    (eg : ∀ args w, (callFunc gf args).run Tryz.prog w = .ok (.enter gf args) w) :
    Calls Tryz.prog 52 #[.slice A gs.length c, .func (.func gf) #[] lb] w fun e w' => e = .returned (.bool (gs.any p)) ∧ Below w.heap.size w w' := by
  have HP := Lib.hid hp
  clear hp
  go_enter Tryz.func52, Tryz.ntmps52
  go_wp2_with fail
  refine (IndexFuncM_any _ _ _ _ _ _ _ h HP.out eg).mono ?_
  rintro e w' ⟨rfl, hb⟩
  go_wp2
  go_ret
  exact ⟨ret_bool (by rw [Bool.eq_iff_iff, decide_eq_true_eq, idxBy_nonneg p gs 0 (by omega)]), hb⟩
set_option maxHeartbeats 1000000 in
theorem IndexFuncI_any (A : Option Addr) (c : Nat) (gs : List Int) (gf : Nat) (lb : Array Value) (p : Int → Bool) (w : World) (h : RdI w A gs) (hp : PredI w gf lb gs p)
    (eg : ∀ args w, (callFunc gf args).run Tryz.prog w = .ok (.enter gf args) w) :
    Calls Tryz.prog 159 #[.slice A gs.length c, .func (.func gf) #[] lb] w fun e w' => e = .returned (.int .i64 (idxBy p gs 0)) ∧ Below w.heap.size w w' := by
  have hl := h.1
  have HP := Lib.hid hp
  clear hp
  go_enter Tryz.func159, Tryz.ntmps159
  go_wp2
  go_loopw [5, 8] (fun _ i wr => ∃ k : Nat, k ≤ gs.length ∧ i = .int .i64 k ∧ Hid (idxBy p gs 0 = idxBy p (gs.drop k) k) ∧ Below w.heap.size w wr) (fun _ i _ => gs.length - (intOf i).toNat)
  case atStart => exact ⟨0, Nat.zero_le _, rfl, Lib.hid (by simp), Below.refl _ _⟩
  case round =>
    obtain ⟨k, hk, rfl, HI, hB⟩ := hrel
    by_cases hlt : k < gs.length
    · obtain ⟨b, o, rfl, h0⟩ := (h.bI hB).int k hlt; have HC := HP.out gs[k] wr (List.getElem_mem hlt) hB
      by_cases hx : p gs[k] = true
      · simp only [hx] at HC
        have HX := Lib.hid hx
        replace HC := Lib.hid HC
        clear hx
        go_wp2_with fail
        refine HC.out.mono ?_
        rintro e w2 ⟨rfl, hb⟩
        go_wp2
        go_ret
        exact ⟨ret_int (by rw [HI.out, drop_cons gs k hlt, idxBy, if_pos HX.out]), hB.trans (hb.mono hB.size)⟩
      · simp only [Bool.not_eq_true] at hx
        simp only [hx] at HC
        have HX := Lib.hid hx
        replace HC := Lib.hid HC
        clear hx
        go_wp2_with fail
        refine HC.out.mono ?_
        rintro e w2 ⟨rfl, hb⟩
        go_wp2
        go_roundw
        case rel => exact ⟨k + 1, by omega, by go_num, Lib.hid (by rw [HI.out, drop_cons gs k hlt, idxBy, if_neg (by rw [HX.out]; simp)]; rfl), hB.trans (hb.mono hB.size)⟩
        case measure => simp [intOf]; omega
    · go_wp2
      go_ret
      exact ⟨ret_int (by rw [HI.out, drop_end gs k (by omega)]; rfl), hB⟩
theorem ContainsFuncI_any (A : Option Addr) (c : Nat) (gs : List Int) (gf : Nat) (lb : Array Value) (p : Int → Bool) (w : World) (h : RdI w A gs) (hp : PredI w gf lb gs p)
    (eg : ∀ args w, (callFunc gf args).run Tryz.prog w = .ok (.enter gf args) w) :
    Calls Tryz.prog 137 #[.slice A gs.length c, .func (.func gf) #[] lb] w fun e w' => e = .returned (.bool (gs.any p)) ∧ Below w.heap.size w w' := by
  have HP := Lib.hid hp
  clear hp
  go_enter Tryz.func137, Tryz.ntmps137
  go_wp2_with fail
  refine (IndexFuncI_any _ _ _ _ _ _ _ h HP.out eg).mono ?_
  rintro e w' ⟨rfl, hb⟩
  go_wp2
  go_ret
  exact ⟨ret_bool (by rw [Bool.eq_iff_iff, decide_eq_true_eq, idxBy_nonneg p gs 0 (by omega)]), hb⟩
inductive Vals (P : Program) (tmps : Array Value) (w : World) : List ResultVar → List Value → Prop where
  | nil : Vals P tmps w [] []
  | tmp {u : Tmp} {rs : List ResultVar} {vs : List Value} (h : Vals P tmps w rs vs) : Vals P tmps w (.tmp u :: rs) (tmps.getD u undef :: vs)
  | cell {p : Tmp} {ty : TypeId} {rs : List ResultVar} {vs : List Value} (g : Nat) (t : TypeId) (cs : Array Value) (fr : Nat × Nat) (d : TypeDesc)
      (hp : tmps.getD p undef = .pointer (some ⟨g, 0, none⟩)) (hg : w.heap[g]? = some (.cells cs t fr))
      (hu : P.underlying ty = some d) (hd : (match d with | .struct _ | .array _ _ => true | _ => false) = true) (hi : (P.info? ty).map (·.size) = some cs.size)
      (h : Vals P tmps w rs vs) : Vals P tmps w (.cell p ty :: rs) (.agg cs :: vs)
section
variable {P : Program} {tmps : Array Value} {w : World}
theorem vals_run {rs : List ResultVar} {vs : List Value} (hv : Vals P tmps w rs vs) (f : ResultVar → Sem Value) (hf : ∀ u, f (.tmp u) = pure (tmps.getD u undef)) (hc : ∀ a t, f (.cell a t) = (do loadVar t (← asAddr (tmps.getD a undef)))) :
    (rs.mapM f).run P w = .ok vs w := by
  induction hv with
  | nil => simp
  | tmp h ih => simp [List.mapM_cons, hf, ih]
  | cell g t cs fr d hp hg hu hd hi h ih =>
    rw [List.mapM_cons, hc, hp]
    simp [asAddr, run_loadVar_row w g t _ cs fr d hg hu hd hi, ih]
theorem results_list {fn : Func} {rs : List ResultVar} {vs : List Value} (h : fn.results = rs.toArray) (hl : vs.length ≠ 1) (hv : Vals P tmps w rs vs) : (results fn tmps).run P w = .ok (.tuple vs.toArray) w := by
  unfold results
  rw [h, List.mapM_toArray]
  simp only [Sem.run_bind, Sem.run_map]
  rw [vals_run hv]
  · simp [hl]
  · intro u
    rfl
  · intro a t
    rfl
end
theorem cells4 {w : World} {b : Nat} {x0 x1 x2 x3 : Value} {T : TypeId} (h : w.heap[b]? = some (.cells #[x0, x1, x2, x3] T (0, 0))) :
    w.cell? ⟨b, 0, none⟩ = some x0 ∧ w.cell? ⟨b, 1, none⟩ = some x1 ∧ w.cell? ⟨b, 2, none⟩ = some x2 ∧ w.cell? ⟨b, 3, none⟩ = some x3 ∧ ∀ k, w.frozen? ⟨b, k, none⟩ = false :=
  ⟨by rw [cell_of_row _ _ 0 _ _ (0, 0) h]; rfl, by rw [cell_of_row _ _ 1 _ _ (0, 0) h]; rfl, by rw [cell_of_row _ _ 2 _ _ (0, 0) h]; rfl, by rw [cell_of_row _ _ 3 _ _ (0, 0) h]; rfl, fun k => frozen_of_row _ _ k _ _ h⟩
theorem cells3 {w : World} {b : Nat} {x0 x1 x2 : Value} {T : TypeId} (h : w.heap[b]? = some (.cells #[x0, x1, x2] T (0, 0))) :
    w.cell? ⟨b, 0, none⟩ = some x0 ∧ w.cell? ⟨b, 1, none⟩ = some x1 ∧ w.cell? ⟨b, 2, none⟩ = some x2 ∧ ∀ k, w.frozen? ⟨b, k, none⟩ = false :=
  ⟨by rw [cell_of_row _ _ 0 _ _ (0, 0) h]; rfl, by rw [cell_of_row _ _ 1 _ _ (0, 0) h]; rfl, by rw [cell_of_row _ _ 2 _ _ (0, 0) h]; rfl, fun k => frozen_of_row _ _ k _ _ h⟩
theorem set4 {w : World} {b : Nat} {x0 x1 x2 x3 u0 u1 u2 u3 : Value} {T : TypeId} (h : w.heap[b]? = some (.cells #[x0, x1, x2, x3] T (0, 0))) :
    ((((w.setCell ⟨b, 0, none⟩ u0).setCell ⟨b, 1, none⟩ u1).setCell ⟨b, 2, none⟩ u2).setCell ⟨b, 3, none⟩ u3).heap[b]? = some (.cells #[u0, u1, u2, u3] T (0, 0)) :=
  heap_setCell_same _ _ 3 _ _ _ (heap_setCell_same _ _ 2 _ _ _ (heap_setCell_same _ _ 1 _ _ _ (heap_setCell_same _ _ 0 _ _ _ h)))
theorem set4_ne {w : World} {b c : Nat} (hn : c ≠ b) {u0 u1 u2 u3 : Value} : ((((w.setCell ⟨b, 0, none⟩ u0).setCell ⟨b, 1, none⟩ u1).setCell ⟨b, 2, none⟩ u2).setCell ⟨b, 3, none⟩ u3).heap[c]? = w.heap[c]? := by
  rw [heap_setCell_other _ _ _ _ hn, heap_setCell_other _ _ _ _ hn, heap_setCell_other _ _ _ _ hn, heap_setCell_other _ _ _ _ hn]
theorem set3 {w : World} {b : Nat} {x0 x1 x2 u0 u1 u2 : Value} {T : TypeId} (h : w.heap[b]? = some (.cells #[x0, x1, x2] T (0, 0))) :
    (((w.setCell ⟨b, 0, none⟩ u0).setCell ⟨b, 1, none⟩ u1).setCell ⟨b, 2, none⟩ u2).heap[b]? = some (.cells #[u0, u1, u2] T (0, 0)) :=
  heap_setCell_same _ _ 2 _ _ _ (heap_setCell_same _ _ 1 _ _ _ (heap_setCell_same _ _ 0 _ _ _ h))
section
variable {P : Program} {ops : Array Oper}
theorem run_app1 {α : Type} {E : World → α → List Value → Prop} {W : World} (T sz B : Nat) (t ty : TypeId) (z : Value) (bytes : Nat)
    (ht : P.underlying t = some (.slice T)) (hinfo : (P.info? T).map (fun i => (i.zero, i.size, i.bytes)) = some (some z, sz, bytes)) (hz : z.cells.size = sz) (hs0 : 0 < sz) (hb0 : 0 < bytes)
    (v : Value) (xs : List α) (p : α) (ys : List Value) (hys : ys.length = sz) (h1 : ∀ u ∈ ys, u.oneCell' = true)
    (hp : E W p ys) (HO : App E T sz B W v xs) (hB : B ≤ W.heap.size) (hl : (xs.length + 1) * bytes ≤ 140737488355328)
    (hE : ∀ w1 n cs, W.ownsRow B T sz v n cs → W.grownBy w1 v.ownBlock → ∀ x cs, E W x cs → E w1 x cs) :
    ∃ v1 w1, (Builtin.append_ #[t, t] ty #[v, .slice (some ⟨W.heap.size, 0, none⟩) 1 1]).run P (W.alloc (.cells ys.toArray T)) = .ok v1 w1 ∧ App E T sz B w1 v1 (xs ++ [p]) ∧ W.grownBy w1 v.ownBlock := by
  obtain ⟨i0, hi, hzz⟩ := Option.map_eq_some_iff.1 hinfo
  simp only [Prod.mk.injEq] at hzz
  obtain ⟨hz0, hz1, hz2⟩ := hzz
  obtain ⟨cs, hown, hrep⟩ := HO
  have hlen : xs.length + 1 ≤ 140737488355328 := Nat.le_trans (Nat.le_mul_of_pos_right _ hb0) hl
  obtain ⟨v1, w1, hr, h2, h3, _, _⟩ := run_append_own_at (P := P) (W.alloc (.cells ys.toArray T)) B t ty T i0 z sz bytes ht hi hz0 hz1 hz2 hz hs0 v xs.length cs (hown.alloc _) ⟨W.heap.size, 0, none⟩ 1 1 ys (by rw [hys]; simp)
    (fun j u hj => by
      have ha : (⟨W.heap.size, 0, none⟩ : Addr).add j = ⟨W.heap.size, j, none⟩ := by unfold Addr.add; split <;> simp_all
      rw [ha, World.cell?_alloc_new]
      simpa using hj) h1 (by simp only [maxLen]; omega) hl (by simp; omega)
  have hgg : W.grownBy w1 v.ownBlock := World.grownBy.trans (b := W.alloc (.cells ys.toArray T)) ⟨rfl, rfl, rfl, by simp, fun i hi _ => Below.heap_alloc _ _ _ hi⟩ h3
  exact ⟨v1, w1, hr, ⟨cs ++ ys, by simpa using h2, (hrep.imp (hE w1 _ _ hown hgg)).snoc (hE w1 _ _ hown hgg _ _ hp) hys⟩, hgg⟩
theorem SG.app {α : Type} {E : World → α → List Value → Prop} {W : World} (T sz B : Nat) {Q : Act → World → Prop} {i : Nat} {rest : List Nat} {ls : List (Nat × Value)} {a : Act} {o : Oper} {tl : List Oper} (ho : ops.toList.drop i = o :: tl) (hw : Region.wanted o (yielded ops a.tmps) = true)
    (s x : Operand) (t : TypeId) (z : Value) (bytes : Nat)
    (hop : o.op = .call { callee := .builtin .append, args := #[s, x], argTypes := #[t, t] })
    (ht : P.underlying t = some (.slice T)) (hinfo : (P.info? T).map (fun i => (i.zero, i.size, i.bytes)) = some (some z, sz, bytes)) (hz : z.cells.size = sz) (hs0 : 0 < sz) (hb0 : 0 < bytes)
    (v : Value) (xs : List α) (p : α) (ys : List Value) (hs : a.eval s = v) (hx : a.eval x = .slice (some ⟨W.heap.size, 0, none⟩) 1 1) (hys : ys.length = sz) (h1 : ∀ u ∈ ys, u.oneCell' = true)
    (hp : E W p ys) (HO : App E T sz B W v xs) (hB : B ≤ W.heap.size) (hl : (xs.length + 1) * bytes ≤ 140737488355328)
    (hE : ∀ w1 n cs, W.ownsRow B T sz v n cs → W.grownBy w1 v.ownBlock → ∀ x cs, E W x cs → E w1 x cs)
    (h : ∀ v1 w1, App E T sz B w1 v1 (xs ++ [p]) → W.grownBy w1 v.ownBlock → Stab P ops i a w1 ls ∧ SG P ops Q rest ls (a.put o.dst v1) w1) :
    SG P ops Q (i :: rest) ls a (W.alloc (.cells ys.toArray T)) := by
  obtain ⟨v1, w1, hr, h2, h3⟩ := run_app1 (P := P) T sz B t o.type z bytes ht hinfo hz hs0 hb0 v xs p ys hys h1 hp HO hB hl hE
  obtain ⟨k1, k2⟩ := h v1 w1 h2 h3
  refine SG.v (v := v1) (w' := w1) ho (by rw [hop]; rfl) hw ?_ k1 k2
  unfold execOp
  simp only [hop, resolve, invoke, builtin, Sem.run_bind, Sem.run_pure, Result.andThen_ok, List.map_toArray, List.map_cons, List.map_nil, hs, hx, hr]
theorem SG.apps {α : Type} {E E' : World → α → List Value → Prop} {W : World} (hE1 : One E') (hEE : ∀ x cs, E' W x cs → E W x cs) (T sz B : Nat) {Q : Act → World → Prop} {i : Nat} {rest : List Nat} {ls : List (Nat × Value)} {a : Act} {o : Oper} {tl : List Oper} (ho : ops.toList.drop i = o :: tl) (hw : Region.wanted o (yielded ops a.tmps) = true)
    (s x : Operand) (t : TypeId) (z : Value) (bytes : Nat)
    (hop : o.op = .call { callee := .builtin .append, args := #[s, x], argTypes := #[t, t] })
    (ht : P.underlying t = some (.slice T)) (hinfo : (P.info? T).map (fun i => (i.zero, i.size, i.bytes)) = some (some z, sz, bytes)) (hz : z.cells.size = sz) (hs0 : 0 < sz) (hb0 : 0 < bytes)
    (v : Value) (xs ys : List α) (A : Option Addr) (c : Nat) (hs : a.eval s = v) (hx : a.eval x = .slice A ys.length c)
    (HR : Rd E' sz W A ys) (HO : App E T sz B W v xs) (hB : B ≤ W.heap.size) (hl : (xs.length + ys.length) * bytes ≤ 140737488355328)
    (hE : ∀ w1 n cs, W.ownsRow B T sz v n cs → W.grownBy w1 v.ownBlock → ∀ x cs, E W x cs → E w1 x cs)
    (h : ∀ v1 w1, App E T sz B w1 v1 (xs ++ ys) → W.grownBy w1 v.ownBlock → Stab P ops i a w1 ls ∧ SG P ops Q rest ls (a.put o.dst v1) w1) :
    SG P ops Q (i :: rest) ls a W := by
  obtain ⟨v1, w1, hr, h2, h3⟩ := run_apps (P := P) hE1 hEE T sz B t o.type z bytes ht hinfo hz hs0 hb0 v xs ys A c HR HO hB hl hE
  obtain ⟨k1, k2⟩ := h v1 w1 h2 h3
  refine SG.v (v := v1) (w' := w1) ho (by rw [hop]; rfl) hw ?_ k1 k2
  unfold execOp
  simp only [hop, resolve, invoke, builtin, Sem.run_bind, Sem.run_pure, Result.andThen_ok, List.map_toArray, List.map_cons, List.map_nil, hs, hx, hr]
end
end Go.Proofs.YtfommmijojfdbaaGreatDoor
namespace Go.Proofs.YtfommmijojfdbaaGreatDoor
open Go.RowKit Go.Shelf
attribute [local go_sem] Oper.semAt_some
theorem take_snoc {α : Type} (xs : List α) (k : Nat) (hk : k < xs.length) : xs.take (k + 1) = xs.take k ++ [xs[k]] := List.take_succ_eq_append_getElem hk
theorem Values_any (A : Option Addr) (n c : Nat) (w : World) :
    Calls Tryz.prog 105 #[.slice A n c] w fun e w' => e = .returned (.func (.func 141) #[] #[.pointer (some ⟨w.heap.size, 0, none⟩)]) ∧ w' = w.alloc (.cells #[.slice A n c] 25) := by
  go_enter Tryz.func105, Tryz.ntmps105
  go_wp2
  go_ret
  exact ⟨rfl, rfl⟩
set_option maxRecDepth 100000 in
set_option maxHeartbeats 2000000 in
theorem values1_iter (Bs : Nat) (A : Option Addr) (c : Nat) (xs : List Int) (W0 w : World) (h : RdI W0 A xs) (hb : Below W0.heap.size W0 w) (hB : w.cell? ⟨Bs, 0, none⟩ = some (.slice A xs.length c)) :
    IterK Tryz.prog 141 #[.pointer (some ⟨Bs, 0, none⟩)] (fun _ x args => args = #[.int .i64 x]) (Below W0.heap.size) w xs := by
  intro l J Jx W hW hJ hJx hY h0
  have hl := h.1
  have hB1 := kc hW hB
  have hb1 := hb.trans (hW.mono hb.size)
  have HR := Lib.hid h
  have HY := Lib.hid hY
  have HJ := Lib.hid (And.intro hJ hJx)
  have H0 := Lib.hid h0
  clear h hY hJ hJx hb hW hB h0
  refine callsIn_of_wp Tryz.func141 rfl trivial ?_ rfl
  simp only [Tryz.ntmps141, List.size_toArray, List.length_cons, List.length_nil, Nat.reduceAdd, Nat.reduceSub, Array.replicate_succ, Array.replicate_zero, List.push_toArray, List.append_toArray, List.nil_append, List.cons_append]
  gi_wp2
  gi_loopw [7] (fun i wr => ∃ k : Nat, k ≤ xs.length ∧ i = .int .i64 k ∧ Hid (J (xs.take k) wr) ∧ Below W0.heap.size W0 wr)
    (fun i _ => xs.length - (intOf i).toNat)
  case atStart => exact ⟨0, Nat.zero_le _, rfl, H0, hb1⟩
  case round =>
    obtain ⟨k, hk, rfl, HJs, hnx⟩ := hrel
    by_cases hlt : k < xs.length
    · obtain ⟨b, o, rfl, hc⟩ := (HR.out.bI hnx).int k hlt
      obtain ⟨fn, tmps, assign, body, hy, hR⟩ := HY.out (xs.take k) xs[k] _ wr HJs.out (by rw [← take_snoc xs k hlt]; exact List.take_prefix _ _) rfl
      gi_wp2
      refine ⟨rfl, hR.mono ?_⟩
      rintro e W3 (⟨rfl, hJ3, hk3⟩ | ⟨rfl, hJx3, _⟩)
      · have HJ3 := Lib.hid hJ3
        have hk4 := hnx.trans hk3
        clear hJ3 hk3
        gi_wp2
        go_roundw
        case rel => exact ⟨k + 1, by omega, by go_num, by rw [take_snoc xs k hlt]; exact HJ3, hk4⟩
        case measure => simp [intOf]; omega
      · have HJx3 := Lib.hid hJx3
        clear hJx3
        gi_wp2
        refine bodyPost_ret (results_none rfl _ _ _) rfl ?_
        exact ⟨⟨_, rfl⟩, .inr ⟨_, by rw [← take_snoc xs k hlt]; exact List.take_prefix _ _, HJx3.out⟩⟩
    · have HJe := Lib.hid (show J xs wr from by have := HJs.out; rwa [List.take_of_length_le (by omega)] at this)
      gi_wp2
      go_end0
      exact ⟨⟨_, rfl⟩, .inl HJe.out⟩
end Go.Proofs.YtfommmijojfdbaaGreatDoor
namespace Go.Proofs.YtfommmijojfdbaaGreatDoor
open Go.RowKit
theorem Clone_any (A : Option Addr) (c : Nat) (xs : List Int) (w : World) (h : RdI w A xs) (hb : xs.length ≤ 1000000) :
    Calls Tryz.prog 58 #[.slice A xs.length c] w fun e w' => ∃ v, e = .returned v ∧ App EI 3 1 w.heap.size w' v xs ∧ Below w.heap.size w w' := by
  have hq : ∀ (w : World) (a : Option Addr) (n c n' c' : Nat), (binOp .eql 25 (.slice a n c) (.slice none n' c')).run Tryz.prog w = .ok (.bool a.isNone) w := fun w a n c n' c' => Lib.run_eql_slice_nil w _ _ a n c n' c' Tryz.underlying25
  rcases A with _ | ad
  · have := h.none_nil
    subst this
    go_enter Tryz.func58, Tryz.ntmps58
    go_wp2
    go_ret
    exact ⟨_, rfl, App.nil _ _ _ _ _, Below.refl _ _⟩
  · go_enter Tryz.func58, Tryz.ntmps58
    go_wp2_with (at_builtin; refine wp_apps EI.one (fun _ _ h => h) 3 1 w.heap.size rfl _ _ 25 (.int .i64 0) 8 rfl Tryz.underlying25 (by kernel_rfl) rfl (by decide) (by decide) _ [] xs (some ad) c rfl rfl (h.bI (below_alloc (Below.refl _ _) _)) (App.empty EI 3 1 _ w (Nat.le_refl _)) (by simp) (by simp; omega) (fun _ _ _ _ _ _ _ h => h) ?_; intro v1 w1 ho hg)
    go_ret
    refine ⟨_, rfl, by simpa using ho, ?_⟩
    exact ((Below.refl _ _).alloc (Nat.le_refl _) _).grown hg (by simp) (fun k hk => by have e : some w.heap.size = some k := hk; injection e with e; omega)
def EqG (w : World) (gf : Nat) (lb : Array Value) (xs ys : List G) : Prop :=
  ∀ g h A B c d w1, g ∈ xs → h ∈ ys → RdI w1 A g.wires → g.wires.length ≤ c → RdI w1 B h.wires → h.wires.length ≤ d → Below w.heap.size w w1 →
    Calls Tryz.prog gf (#[.agg #[.int .i64 g.kind, .slice A g.wires.length c, .int .i64 g.bit, .int .i64 g.cif], .agg #[.int .i64 h.kind, .slice B h.wires.length d, .int .i64 h.bit, .int .i64 h.cif]] ++ lb) w1 fun e w2 => e = .returned (.bool (decide (g = h))) ∧ Below w1.heap.size w1 w2
set_option maxHeartbeats 2000000 in
theorem EqualFunc_any (A B : Option Addr) (c d : Nat) (xs ys : List G) (gf : Nat) (lb : Array Value) (w : World) (h : RdG w A xs) (h' : RdG w B ys) (hp : EqG w gf lb xs ys)
    (eg : ∀ args w, (callFunc gf args).run Tryz.prog w = .ok (.enter gf args) w) :
    Calls Tryz.prog 64 #[.slice A xs.length c, .slice B ys.length d, .func (.func gf) #[] lb] w fun e w' => e = .returned (.bool (decide (xs = ys))) ∧ Below w.heap.size w w' := by
  have hl := h.1
  have hl' := h'.1
  have HP := Lib.hid hp
  clear hp
  by_cases hn : xs.length = ys.length
  · have hn1 : ((xs.length : Int) != (ys.length : Int)) = false := by simp [hn]
    have HN := Lib.hid hn
    have hle : xs.length ≤ ys.length := by omega
    clear hn
    go_enter Tryz.func64, Tryz.ntmps64
    go_wp2
    go_loopw [7, 17] (fun _ i wr => ∃ k : Nat, k ≤ xs.length ∧ i = .int .i64 k ∧ Hid (decide (xs = ys) = decide (xs.drop k = ys.drop k)) ∧ Below w.heap.size w wr) (fun _ i _ => xs.length - (intOf i).toNat)
    case atStart => exact ⟨0, Nat.zero_le _, rfl, Lib.hid (by simp), Below.refl _ _⟩
    case round =>
      obtain ⟨k, hk, rfl, HI, hB⟩ := hrel
      by_cases hlt : k < xs.length
      · have hlt' : k < ys.length := by omega
        obtain ⟨b, o, B1, c1, rfl, h0, h1, h2, h3, hc, hw⟩ := (h.bG hB).gate k hlt
        obtain ⟨b', o', B2, c2, rfl, h0', h1', h2', h3', hc', hw'⟩ := (h'.bG hB).gate k hlt'
        have hB2 : ∀ o1 o2, Below w.heap.size w ((wr.alloc o1).alloc o2) := fun o1 o2 => (hB.alloc hB.size _).alloc (by have := hB.size; simp; omega) _
        have hB3 : ∀ o1 o2, Below wr.heap.size wr ((wr.alloc o1).alloc o2) := fun o1 o2 => ((Below.refl _ _).alloc (Nat.le_refl _) _).alloc (by simp) _
        have HC := fun o1 o2 => HP.out xs[k] ys[k] B1 B2 c1 c2 ((wr.alloc o1).alloc o2) (List.getElem_mem hlt) (List.getElem_mem hlt') (hw.bI (hB3 o1 o2)) hc (hw'.bI (hB3 o1 o2)) hc' (hB2 o1 o2)
        have lb' := cell_lt h0'
        have hold := olds wr
        clear hw hw' h h'
        by_cases hx : xs[k] = ys[k]
        · have e1 : decide (xs[k] = ys[k]) = true := by simp [hx]
          simp only [e1] at HC
          have HX := Lib.hid hx
          replace HC := Lib.hid HC
          replace HB := Lib.hid hB2
          replace HD := Lib.hid hB3
          clear hx e1 hB2 hB3
          go_wp2_with fail
          refine (HC.out _ _).mono ?_
          rintro e w2 ⟨rfl, hb⟩
          go_wp2
          go_roundw
          case rel => exact ⟨k + 1, by omega, by go_num, Lib.hid (by rw [HI.out, decide_eq_decide, drop_eq_iff xs ys k hlt hlt']; exact ⟨fun h => h.2, fun h => ⟨HX.out, h⟩⟩), (HB.out _ _).trans (hb.mono (HB.out _ _).size)⟩
          case measure => simp [intOf]; omega
        · have e1 : decide (xs[k] = ys[k]) = false := by simp [hx]
          simp only [e1] at HC
          have HX := Lib.hid hx
          replace HC := Lib.hid HC
          replace HB := Lib.hid hB2
          replace HD := Lib.hid hB3
          clear hx e1 hB2 hB3
          go_wp2_with fail
          refine (HC.out _ _).mono ?_
          rintro e w2 ⟨rfl, hb⟩
          go_wp2
          go_ret
          exact ⟨ret_bool (by rw [HI.out, eq_comm, decide_eq_false_iff_not, drop_eq_iff xs ys k hlt hlt']; exact fun h => HX.out h.1), (HB.out _ _).trans (hb.mono (HB.out _ _).size)⟩
      · go_wp2
        go_ret
        exact ⟨ret_bool (by have := HN.out; rw [HI.out, drop_end xs k (by omega), drop_end ys k (by omega)]; rfl), hB⟩
  · have hn1 : ((xs.length : Int) != (ys.length : Int)) = true := by simp; omega
    have HN := Lib.hid hn
    clear hn
    go_enter Tryz.func64, Tryz.ntmps64
    go_wp2
    go_ret
    exact ⟨ret_bool (by rw [eq_comm, decide_eq_false_iff_not]; exact fun e => HN.out (by rw [e])), Below.refl _ _⟩
end Go.Proofs.YtfommmijojfdbaaGreatDoor
namespace Go.Proofs.YtfommmijojfdbaaGreatDoor
open Go.RowKit Go.Shelf
attribute [local go_sem] Oper.semAt_some
theorem Backward_any (A : Option Addr) (n c : Nat) (w : World) :
    Calls Tryz.prog 74 #[.slice A n c] w fun e w' => e = .returned (.func (.func 122) #[] #[.pointer (some ⟨w.heap.size, 0, none⟩)]) ∧ w' = w.alloc (.cells #[.slice A n c] 30) := by
  go_enter Tryz.func74, Tryz.ntmps74
  go_wp2
  go_ret
  exact ⟨rfl, rfl⟩
def backL (l : List M) : List (M × Nat) := l.zipIdx.reverse
theorem backL_length (l : List M) : (backL l).length = l.length := by simp [backL]
theorem backL_get (l : List M) (k : Nat) (hk : k < (backL l).length) : (backL l)[k] = (l[l.length - 1 - k]'(by rw [backL_length] at hk; omega), l.length - 1 - k) := by
  simp [backL]
def MvArgs (W0 : World) (_ : World) (x : M × Nat) (args : Array Value) : Prop := ∃ A c, args = #[.int .i64 x.2, .agg #[.int .i64 x.1.rule, .int .i64 x.1.at_, .bool x.1.back, .slice A x.1.wires.length c]] ∧ x.1.wires.length ≤ c ∧ RdI W0 A x.1.wires
def KpB (n0 Bs : Nat) (W W' : World) : Prop := Below n0 W W' ∧ W'.heap[Bs]? = W.heap[Bs]?
theorem KpB.trans {n0 Bs : Nat} {W W1 W2 : World} (h : KpB n0 Bs W W1) (k : KpB n0 Bs W1 W2) : KpB n0 Bs W W2 := ⟨h.1.trans k.1, k.2.trans h.2⟩
set_option maxRecDepth 100000 in
set_option maxHeartbeats 2000000 in
theorem backward1_iter (Bs : Nat) (A : Option Addr) (c : Nat) (xs : List M) (W0 w : World) (h : RdM W0 A xs) (hb : Below W0.heap.size W0 w) (hB : w.heap[Bs]? = some (.cells #[.slice A xs.length c] 30 (0, 0))) :
    IterK Tryz.prog 122 #[.pointer (some ⟨Bs, 0, none⟩)] (MvArgs W0) (KpB W0.heap.size Bs) w (backL xs) := by
  intro l J Jx W hW hJ hJx hY h0
  have hl := h.1
  have hbx := (hW.block Bs (Array.getElem?_eq_some_iff.1 hB).1).trans hB
  have hB1 := Boxed.cell hbx
  have hb1 := hb.trans (hW.mono hb.size)
  have HR := Lib.hid h
  have HY := Lib.hid hY
  have H0 := Lib.hid h0
  have HBX := Lib.hid hbx
  clear h hY hJ hJx hb hB h0 hbx
  refine callsIn_of_wp Tryz.func122 rfl trivial ?_ rfl
  simp only [Tryz.ntmps122, List.size_toArray, List.length_cons, List.length_nil, Nat.reduceAdd, Nat.reduceSub, Array.replicate_succ, Array.replicate_zero, List.push_toArray, List.append_toArray, List.nil_append, List.cons_append]
  have hw1 : IntKind.i64.wrap ((xs.length : Int) - 1) = (xs.length : Int) - 1 := IntWalk.i64_in _ (by omega)
  gi_wp2
  gi_loopw [3] (fun i wr => ∃ k : Nat, k ≤ xs.length ∧ i = .int .i64 ((xs.length : Int) - 1 - k) ∧ Hid (J ((backL xs).take k) wr) ∧ Hid (wr.heap[Bs]? = some (.cells #[.slice A xs.length c] 30 (0, 0))) ∧ Below W0.heap.size W0 wr)
    (fun i _ => (intOf i + 1).toNat)
  case atStart => exact ⟨0, Nat.zero_le _, by simp, H0, HBX, hb1⟩
  case round =>
    obtain ⟨k, hk, rfl, HJs, HBx, hnx⟩ := hrel
    by_cases hlt : k < xs.length
    · have hlk : k < (backL xs).length := by rw [backL_length]; exact hlt
      obtain ⟨m, hm⟩ : ∃ m : Nat, m = xs.length - 1 - k := ⟨_, rfl⟩
      have hmi : (xs.length : Int) - 1 - k = (m : Int) := by omega
      have hml : m < xs.length := by omega
      obtain ⟨b, o, B, d, hA, k0, k1, k2, k3, hd, hr⟩ := HR.out.move m hml
      subst hA
      replace k0 := kc hnx k0
      replace k1 := kc hnx k1
      replace k2 := kc hnx k2
      replace k3 := kc hnx k3
      have hBc := Boxed.cell HBx.out
      have hg : (backL xs)[k] = (xs[m], m) := by rw [backL_get]; simp only [hm]
      obtain ⟨s, hs⟩ : ∃ s, xs[m] = s := ⟨_, rfl⟩
      rw [hs] at k0 k1 k2 k3 hd hr hg
      obtain ⟨fn, tmps, assign, body, hy, hR⟩ := HY.out ((backL xs).take k) (s, m) #[.int .i64 m, .agg #[.int .i64 s.rule, .int .i64 s.at_, .bool s.back, .slice B s.wires.length d]] wr HJs.out (by rw [← hg, ← take_snoc (backL xs) k hlk]; exact List.take_prefix _ _) ⟨B, d, rfl, hd, hr⟩
      have HG := Lib.hid hg
      have hw2 : IntKind.i64.wrap ((m : Int) - 1) = (m : Int) - 1 := IntWalk.i64_in _ (by omega)
      rw [hmi]
      have HM := Lib.hid hm
      clear hg hr hd hs hm hmi
      gi_wp2
      refine ⟨rfl, hR.mono ?_⟩
      rintro e W3 (⟨rfl, hJ3, hk3⟩ | ⟨rfl, hJx3, _⟩)
      · have HJ3 := Lib.hid hJ3
        have HB3 := Lib.hid (hk3.2.trans HBx.out)
        have hk4 := hnx.trans hk3.1
        clear hJ3 hk3
        gi_wp2
        go_roundw
        case rel => exact ⟨k + 1, by omega, by have := HM.out; congr 1; omega, by rw [take_snoc (backL xs) k hlk, HG.out]; exact HJ3, HB3, hk4⟩
        case measure => simp [intOf]
      · have HJx3 := Lib.hid hJx3
        clear hJx3
        gi_wp2
        refine bodyPost_ret (results_none rfl _ _ _) rfl ?_
        exact ⟨⟨_, rfl⟩, .inr ⟨_, by rw [← HG.out, ← take_snoc (backL xs) k hlk]; exact List.take_prefix _ _, HJx3.out⟩⟩
    · have HJe := Lib.hid (show J (backL xs) wr from by have := HJs.out; rwa [List.take_of_length_le (by rw [backL_length]; omega)] at this)
      have hneg : (xs.length : Int) - 1 - k < 0 := by omega
      gi_wp2
      go_end0
      exact ⟨⟨_, rfl⟩, .inl HJe.out⟩
end Go.Proofs.YtfommmijojfdbaaGreatDoor
