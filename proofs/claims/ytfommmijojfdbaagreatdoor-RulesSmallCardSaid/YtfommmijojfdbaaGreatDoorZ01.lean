/- Part 2 of the proof that 'spoondriftlaw19.RulesApplies' holds for every input; it has no condition beyond the statement's own. -/
import Derived.Orders
import Derived.StillTail
import Derived.KernelRfl
import Derived.Laws.World
set_option linter.all false
namespace Go.Proofs.YtfommmijojfdbaaGreatDoor
def kindOp : Op → Nat
  | .move _ | .assign _ | .pick .. | .build .. | .fieldAddr .. | .field .. | .unOp .. | .makeFunc .. | .extract .. | .binOp .. | .indexAddr .. | .index .. | .slice .. | .nilCheck _ => 0
  | .call c => match c.callee with
    | .builtin .len => 0
    | .builtin .min => 0
    | .builtin .max => 0
    | _ => 2
  | .load .. | .lookup .. => 1
  | _ => 2
def waits (ops : Array Oper) (i j : Nat) : Bool := ((ops[i]?).map fun o => o.after.any fun e => Region.binds .any e && e.on == j).getD false
theorem pA {α : Type} (l : List α) (i : Nat) (a : α) : l.toArray.setIfInBounds i a = (l.set i a).toArray := List.setIfInBounds_toArray l i a
theorem pB {α : Type} {x : α} {xs : List α} {a : α} : (x :: xs).set 0 a = a :: xs := rfl
theorem pC {α : Type} {x : α} {xs : List α} {i : Nat} {a : α} : (x :: xs).set (i + 1) a = x :: xs.set i a := rfl
theorem nw {b : Bool} {p : Prop} (h : b = true) : b = false → p := fun h' => absurd (h'.symm.trans h) (by decide)
def opKind (ops : Array Oper) (i : Nat) : Nat := ((ops[i]?).map fun o => kindOp o.op).getD 2
def tmpsB (ops : Array Oper) : Bool :=
  (List.range ops.size).all fun i => (List.range ops.size).all fun k =>
    match ops[i]?, ops[k]? with
    | some oi, some ok => match ok.dst with
      | some d => (!(oi.looksAt ops).contains d || (waits ops i k && i != k)) && (i == k || oi.dst != some d)
      | none => true
    | _, _ => true
def ordB (ops : Array Oper) : List Nat → List Nat → Bool
  | pr, [] => (List.range ops.size).all fun i => pr.contains i
  | pr, i :: rest => !pr.contains i && decide (i < ops.size) && ((ops[i]?).map fun o => o.after.all fun e => !Region.binds .any e || pr.contains e.on).getD false &&
      (opKind ops i != 2 || (List.range ops.size).all fun k => pr.contains k || k == i || (List.range ops.size).any fun j => waits ops k j && !pr.contains j) && ordB ops (i :: pr) rest
section
variable (P : Program) (ops : Array Oper)
def effUpon (next : Value → World → Prop) : Result Next → Prop
  | .ok (.value v) w' => next v w'
  | .ok .skip w' => next undef w'
  | .ok (.enter f args) w' => Calls P f args w' fun e w'' => ∃ v, e = .returned v ∧ next v w''
  | _ => False
def Stab (i : Nat) (a : Act) (w : World) : List (Nat × Value) → Prop
  | [] => True
  | (j, v) :: ls => (waits ops i j = false → ∃ o, ops[j]? = some o ∧ (execOp a.eval o).run P w = .ok (.value v) w) ∧ Stab i a w ls
def SG (Q : Act → World → Prop) : List Nat → List (Nat × Value) → Act → World → Prop
  | [], _, a, w => Q a w
  | i :: rest, ls, a, w => ∃ o, ops[i]? = some o ∧
      if Region.wanted o (yielded ops a.tmps) = true then
        (if kindOp o.op = 0 then ∃ v, (∀ W, (execOp a.eval o).run P W = .ok (.value v) W) ∧ SG Q rest ls (a.put o.dst v) w
         else if kindOp o.op = 1 then ∃ v, (execOp a.eval o).run P w = .ok (.value v) w ∧ SG Q rest ((i, v) :: ls) (a.put o.dst v) w
         else effUpon P (fun v w' => Stab P ops i a w' ls ∧ SG Q rest ls (a.put o.dst v) w') ((execOp a.eval o).run P w))
      else SG Q rest ls (a.put o.dst undef) w
variable {P ops}
theorem drop_at {i : Nat} {o : Oper} {tl : List Oper} (h : ops.toList.drop i = o :: tl) : ops[i]? = some o := by
  have : ops.toList[i]? = some o := by rw [← List.head?_drop, h]; rfl
  simpa using this
theorem SG.p {Q : Act → World → Prop} {i : Nat} {rest : List Nat} {ls : List (Nat × Value)} {a : Act} {w : World} {o : Oper} {v : Value} {tl : List Oper} (ho : ops.toList.drop i = o :: tl) (hk : kindOp o.op = 0) (hw : Region.wanted o (yielded ops a.tmps) = true)
    (hv : ∀ W, (execOp a.eval o).run P W = .ok (.value v) W) (h : SG P ops Q rest ls (a.put o.dst v) w) : SG P ops Q (i :: rest) ls a w :=
  ⟨o, drop_at ho, by rw [if_pos hw, if_pos hk]; exact ⟨v, hv, h⟩⟩
theorem SG.l {Q : Act → World → Prop} {i : Nat} {rest : List Nat} {ls : List (Nat × Value)} {a : Act} {w : World} {o : Oper} {v : Value} {tl : List Oper} (ho : ops.toList.drop i = o :: tl) (hk : kindOp o.op = 1) (hw : Region.wanted o (yielded ops a.tmps) = true)
    (hv : (execOp a.eval o).run P w = .ok (.value v) w) (h : SG P ops Q rest ((i, v) :: ls) (a.put o.dst v) w) : SG P ops Q (i :: rest) ls a w :=
  ⟨o, drop_at ho, by rw [if_pos hw, if_neg (by rw [hk]; decide), if_pos hk]; exact ⟨v, hv, h⟩⟩
theorem SG.e {Q : Act → World → Prop} {i : Nat} {rest : List Nat} {ls : List (Nat × Value)} {a : Act} {w : World} {o : Oper} {tl : List Oper} (ho : ops.toList.drop i = o :: tl) (hk : kindOp o.op = 2) (hw : Region.wanted o (yielded ops a.tmps) = true)
    (h : effUpon P (fun v w' => Stab P ops i a w' ls ∧ SG P ops Q rest ls (a.put o.dst v) w') ((execOp a.eval o).run P w)) : SG P ops Q (i :: rest) ls a w :=
  ⟨o, drop_at ho, by rw [if_pos hw, if_neg (by rw [hk]; decide), if_neg (by rw [hk]; decide)]; exact h⟩
theorem SG.v {Q : Act → World → Prop} {i : Nat} {rest : List Nat} {ls : List (Nat × Value)} {a : Act} {w w' : World} {o : Oper} {v : Value} {tl : List Oper} (ho : ops.toList.drop i = o :: tl) (hk : kindOp o.op = 2) (hw : Region.wanted o (yielded ops a.tmps) = true)
    (hv : (execOp a.eval o).run P w = .ok (.value v) w') (hs : Stab P ops i a w' ls) (h : SG P ops Q rest ls (a.put o.dst v) w') : SG P ops Q (i :: rest) ls a w :=
  SG.e ho hk hw (by rw [hv]; exact ⟨hs, h⟩)
theorem SG.k {Q : Act → World → Prop} {i : Nat} {rest : List Nat} {ls : List (Nat × Value)} {a : Act} {w w' : World} {o : Oper} {tl : List Oper} (ho : ops.toList.drop i = o :: tl) (hk : kindOp o.op = 2) (hw : Region.wanted o (yielded ops a.tmps) = true)
    (hv : (execOp a.eval o).run P w = .ok .skip w') (hs : Stab P ops i a w' ls) (h : SG P ops Q rest ls (a.put o.dst undef) w') : SG P ops Q (i :: rest) ls a w :=
  SG.e ho hk hw (by rw [hv]; exact ⟨hs, h⟩)
theorem SG.c {Q : Act → World → Prop} {i : Nat} {rest : List Nat} {ls : List (Nat × Value)} {a : Act} {w w' : World} {o : Oper} {f : FuncId} {args : Array Value} {tl : List Oper} (ho : ops.toList.drop i = o :: tl) (hk : kindOp o.op = 2) (hw : Region.wanted o (yielded ops a.tmps) = true)
    (hv : (execOp a.eval o).run P w = .ok (.enter f args) w') (h : Calls P f args w' fun e w'' => ∃ v, e = .returned v ∧ Stab P ops i a w'' ls ∧ SG P ops Q rest ls (a.put o.dst v) w'') : SG P ops Q (i :: rest) ls a w :=
  SG.e ho hk hw (by rw [hv]; exact h)
theorem SG.s {Q : Act → World → Prop} {i : Nat} {rest : List Nat} {ls : List (Nat × Value)} {a : Act} {w : World} {o : Oper} {tl : List Oper} (ho : ops.toList.drop i = o :: tl) (hw : Region.wanted o (yielded ops a.tmps) = false)
    (h : SG P ops Q rest ls (a.put o.dst undef) w) : SG P ops Q (i :: rest) ls a w :=
  ⟨o, drop_at ho, by rw [if_neg (by rw [hw]; decide)]; exact h⟩
structure Lags (ops : Array Oper) (listed : Array Bool) (pr : List Nat) (a a' : Act) : Prop where
  defers : a'.defers = a.defers
  size : a'.tmps.size = a.tmps.size
  same : ∀ t, (∀ i o, i ∈ pr → listed.getD i false = false → ops[i]? = some o → o.dst ≠ some t) → a'.tmps[t]? = a.tmps[t]?
def Pending (P : Program) (ops : Array Oper) (ls : List (Nat × Value)) (a : Act) (w : World) (i : Nat) : Prop :=
  ∃ o, ops[i]? = some o ∧ ((Region.wanted o (yielded ops a.tmps) = true ∧ (∃ v, ((kindOp o.op = 0 ∧ ∀ W, (execOp a.eval o).run P W = .ok (.value v) W) ∨ (kindOp o.op = 1 ∧ (i, v) ∈ ls ∧ (execOp a.eval o).run P w = .ok (.value v) w)) ∧ ∀ d, o.dst = some d → d < a.tmps.size → a.tmps[d]? = some v)) ∨
    (Region.wanted o (yielded ops a.tmps) = false ∧ ∀ d, o.dst = some d → d < a.tmps.size → a.tmps[d]? = some undef))
theorem eval_same {a a' : Act} {x : Operand} (h : ∀ t, x = .tmp t → a'.tmps[t]? = a.tmps[t]?) : a'.eval x = a.eval x := by
  cases x with
  | tmp t => simp only [Act.eval, Array.getD_eq_getD_getElem?, h t rfl]
  | _ => rfl
theorem mem_looksAt_op {o : Oper} {t : Tmp} (h : Operand.tmp t ∈ o.op.operands) : t ∈ o.looksAt ops :=
  List.mem_append_left _ (List.mem_filterMap.2 ⟨.tmp t, by simpa using h, rfl⟩)
theorem exec_same {a a' : Act} {o : Oper} (hs : ∀ cs b, o.op ≠ .select cs b) (h : ∀ t ∈ o.looksAt ops, a'.tmps[t]? = a.tmps[t]?) : execOp a'.eval o = execOp a.eval o :=
  execOp_congr o hs fun x hx => eval_same fun t ht => h t (mem_looksAt_op (by subst ht; exact hx))
theorem wanted_same {a a' : Act} {o : Oper} (h : ∀ t ∈ o.looksAt ops, a'.tmps[t]? = a.tmps[t]?) : Region.wanted o (yielded ops a'.tmps) = Region.wanted o (yielded ops a.tmps) := by
  unfold Region.wanted
  cases hg : o.guard with
  | none => rfl
  | some gw =>
    obtain ⟨g, want⟩ := gw
    have hy : yielded ops a'.tmps g = yielded ops a.tmps g := by
      unfold yielded
      cases ht : (ops[g]?).bind (·.dst) with
      | none => rfl
      | some t =>
        have := h t (List.mem_append_right _ (by simp [hg, ht]))
        simp only [Option.bind_some, this]
    simp only [hy]
theorem put_same {a : Act} {dst : Option Tmp} {v : Value} {t : Tmp} (h : dst ≠ some t) : (a.put dst v).tmps[t]? = a.tmps[t]? := by
  cases dst with
  | none => rfl
  | some d =>
    have hne : d ≠ t := fun e => h (by rw [e])
    simp [Act.put, Array.getElem?_setIfInBounds_ne hne]
theorem put_size {a : Act} {dst : Option Tmp} {v : Value} : (a.put dst v).tmps.size = a.tmps.size := by cases dst <;> simp [Act.put]
theorem put_defers {a : Act} {dst : Option Tmp} {v : Value} : (a.put dst v).defers = a.defers := by cases dst <;> simp [Act.put]
theorem put_at {a : Act} {d : Tmp} {v : Value} (h : d < a.tmps.size) : (a.put (some d) v).tmps[d]? = some v := by simp [Act.put, h]
theorem tmps_spec (h : tmpsB ops = true) {i k : Nat} {oi ok : Oper} {d : Tmp} (hi : ops[i]? = some oi) (hk : ops[k]? = some ok) (hd : ok.dst = some d) :
    (d ∈ oi.looksAt ops → waits ops i k = true ∧ i ≠ k) ∧ (i ≠ k → oi.dst ≠ some d) := by
  have h1 := List.all_eq_true.1 (List.all_eq_true.1 h i (List.mem_range.2 (Array.getElem?_eq_some_iff.1 hi).1)) k (List.mem_range.2 (Array.getElem?_eq_some_iff.1 hk).1)
  rw [hi, hk] at h1
  simp only [hd, Bool.and_eq_true, Bool.or_eq_true, Bool.not_eq_true', bne_iff_ne, beq_iff_eq, List.contains_iff_mem] at h1
  refine ⟨fun hm => ?_, fun hne => ?_⟩
  · rcases h1.1 with h | h
    · simp [hm] at h
    · exact h
  · exact h1.2.resolve_left hne
theorem waits_spec {i j : Nat} {o : Oper} (ho : ops[i]? = some o) : waits ops i j = true ↔ ∃ e ∈ o.after, Region.binds .any e = true ∧ e.on = j := by
  unfold waits
  simp only [ho, Option.map_some, Option.getD_some, Array.any_eq_true', Bool.and_eq_true, beq_iff_eq]
theorem kind_no_select {o : Oper} (h : kindOp o.op ≠ 2) : ∀ cs b, o.op ≠ .select cs b := fun cs b e => h (by rw [e]; rfl)
def Dn (ops : Array Oper) : List Nat → Prop
  | [] => True
  | i :: pr => (∀ k, waits ops i k = true → k ∈ pr) ∧ i ∉ pr ∧ i < ops.size ∧ Dn ops pr
def left_ (ops : Array Oper) (listed : Array Bool) : Nat := (List.range ops.size).countP fun i => !listed.getD i true
theorem countP_lt {α : Type} {p q : α → Bool} {l : List α} (h : ∀ x ∈ l, q x = true → p x = true) {x : α} (hx : x ∈ l) (hp : p x = true) (hq : q x = false) : l.countP q < l.countP p := by
  induction l with
  | nil => cases hx
  | cons y l ih =>
    rw [List.countP_cons, List.countP_cons]
    have hle : l.countP q ≤ l.countP p := List.countP_mono_left fun z hz => h z (List.mem_cons_of_mem _ hz)
    rcases List.mem_cons.1 hx with rfl | hx'
    · rw [hp, hq]; simp; omega
    · have := ih (fun z hz => h z (List.mem_cons_of_mem _ hz)) hx'
      have hy := h y List.mem_cons_self
      cases hqy : q y
      · cases p y <;> simp <;> omega
      · rw [hy hqy]; simp; omega
theorem getD_true_of {listed : Array Bool} {i : Nat} (hi : i < listed.size) : listed.getD i true = listed.getD i false := by simp [hi]
theorem left_set {listed : Array Bool} {i : Nat} (hs : listed.size = ops.size) (hi : i < ops.size) (h : listed.getD i false = false) : left_ ops (listed.setIfInBounds i true) < left_ ops listed := by
  refine countP_lt (fun x hx hq => ?_) (List.mem_range.2 hi) ?_ ?_
  · by_cases hxi : i = x
    · subst hxi; rw [getD_true_of (by rw [hs]; exact hi), h]; rfl
    · rwa [getD_set_ne _ hxi] at hq
  · rw [getD_true_of (by rw [hs]; exact hi), h]; rfl
  · simp [hs, hi]
theorem left_zero {listed : Array Bool} (hs : listed.size = ops.size) (h : left_ ops listed = 0) {i : Nat} (hi : i < ops.size) : listed.getD i false = true := by
  have := List.countP_eq_zero.1 h i (List.mem_range.2 hi)
  rw [getD_true_of (by rw [hs]; exact hi)] at this
  simpa using this
theorem getD_set_self {listed : Array Bool} {i : Nat} (h : i < listed.size) : (listed.setIfInBounds i true).getD i false = true := by simp [h]
theorem Dn.ready {listed : Array Bool} (hs : listed.size = ops.size) : ∀ {pr : List Nat}, Dn ops pr → (∃ i ∈ pr, listed.getD i false = false) → ∃ i ∈ pr, i ∈ Region.ready .any ops listed
  | [], _, ⟨_, h, _⟩ => by cases h
  | i :: pr, ⟨h1, _, h2, h3⟩, h => by
    by_cases ht : ∃ k ∈ pr, listed.getD k false = false
    · obtain ⟨k, hk, hr⟩ := h3.ready hs ht
      exact ⟨k, List.mem_cons_of_mem _ hk, hr⟩
    · obtain ⟨k, hk, hl⟩ := h
      rcases List.mem_cons.1 hk with rfl | hk
      · refine ⟨k, List.mem_cons_self, mem_ready.2 ⟨by rw [getD_true_of (by rw [hs]; exact h2)]; exact hl, _, Array.getElem?_eq_getElem h2, fun e he hb => ?_⟩⟩
        have hw : waits ops k e.on = true := (waits_spec (Array.getElem?_eq_getElem h2)).2 ⟨e, he, hb, rfl⟩
        by_cases hle : listed.getD e.on false = true
        · exact hle
        · exact absurd ⟨e.on, h1 _ hw, by simpa using hle⟩ ht
      · exact absurd ⟨k, hk, hl⟩ ht
theorem ready_waits {listed : Array Bool} {i j : Nat} (h : i ∈ Region.ready .any ops listed) (hw : waits ops i j = true) : listed.getD j false = true := by
  obtain ⟨_, o, ho, hall⟩ := mem_ready.1 h
  obtain ⟨e, he, hb, rfl⟩ := (waits_spec ho).1 hw
  exact hall e he hb
theorem Dn.dep : ∀ {pr : List Nat}, Dn ops pr → ∀ {k j : Nat}, k ∈ pr → waits ops k j = true → j ∈ pr
  | i :: pr, ⟨h1, _, _, h3⟩, k, j, hk, hw => by
    rcases List.mem_cons.1 hk with rfl | hk
    · exact List.mem_cons_of_mem _ (h1 j hw)
    · exact List.mem_cons_of_mem _ (h3.dep hk hw)
def onlyNormal (Q : Act → World → Prop) : Exit → Act → World → Prop
  | .normal, a, w => Q a w
  | _, _, _ => False
theorem Stab.at {i j : Nat} {v : Value} {a : Act} {w : World} : ∀ {ls : List (Nat × Value)}, Stab P ops i a w ls → (j, v) ∈ ls → waits ops i j = false → ∃ o, ops[j]? = some o ∧ (execOp a.eval o).run P w = .ok (.value v) w
  | (k, u) :: ls, h, hm, hw => by
    rcases List.mem_cons.1 hm with e | hm
    · cases e; exact h.1 hw
    · exact Stab.at h.2 hm hw
theorem lag_looks (hT : tmpsB ops = true) {listed : Array Bool} {pr : List Nat} {a a' : Act} (hlag : Lags ops listed pr a a') {i : Nat} {o : Oper} (ho : ops[i]? = some o) (hr : i ∈ Region.ready .any ops listed) :
    ∀ t ∈ o.looksAt ops, a'.tmps[t]? = a.tmps[t]? := fun t ht => hlag.same t fun k ok hk hkl hok hd => by
  have h1 := ((tmps_spec hT ho hok hd).1 ht).1
  rw [ready_waits hr h1] at hkl
  cases hkl
theorem Lags.put {listed : Array Bool} {pr : List Nat} {a a' : Act} (hlag : Lags ops listed pr a a') {i : Nat} {o : Oper} (hs : listed.size = ops.size) (ho : ops[i]? = some o) (v : Value) (hv : ∀ d, o.dst = some d → d < a.tmps.size → a.tmps[d]? = some v) :
    Lags ops (listed.setIfInBounds i true) pr a (a'.put o.dst v) := by
  refine ⟨by rw [put_defers]; exact hlag.defers, by rw [put_size]; exact hlag.size, fun t ht => ?_⟩
  by_cases hd : o.dst = some t
  · rw [hd]
    by_cases hlt : t < a.tmps.size
    · rw [put_at (by rw [hlag.size]; exact hlt), hv t hd hlt]
    · rw [Array.getElem?_eq_none (Nat.not_lt.1 hlt), Array.getElem?_eq_none (by rw [put_size, hlag.size]; exact Nat.not_lt.1 hlt)]
  · rw [put_same hd]
    refine hlag.same t fun k ok hk hkl hok => ?_
    by_cases hki : k = i
    · subst hki; rw [ho] at hok; cases hok; exact hd
    · exact ht k ok hk (by rw [getD_set_ne _ (fun e => hki e.symm)]; exact hkl) hok
theorem pend_step (hT : tmpsB ops = true) {Q : Act → World → Prop} {fuel : Nat} {listed : Array Bool} {pr : List Nat} {ls : List (Nat × Value)} {a a' : Act} {w : World}
    (hs : listed.size = ops.size) (hp : ∀ i ∈ pr, listed.getD i false = false → Pending P ops ls a w i) (hlag : Lags ops listed pr a a') {i : Nat} (hr : i ∈ Region.ready .any ops listed) (hi : i ∈ pr)
    (K : ∀ a'', Lags ops (listed.setIfInBounds i true) pr a a'' → wpAny P .any ops (onlyNormal Q) fuel (listed.setIfInBounds i true) a'' w) :
    wpOp P ops (onlyNormal Q) i (wpAny P .any ops (onlyNormal Q) fuel (listed.setIfInBounds i true)) a' w := by
  obtain ⟨hl, o, ho, _⟩ := mem_ready.1 hr
  have hi' := (Array.getElem?_eq_some_iff.1 ho).1
  rw [getD_true_of (by rw [hs]; exact hi')] at hl
  have hlook := lag_looks hT hlag ho hr
  obtain ⟨o', ho', hpe⟩ := hp i hi hl
  rw [ho] at ho'
  cases ho'
  unfold wpOp
  simp only [ho]
  rw [wanted_same hlook]
  rcases hpe with ⟨hw, v, hv, hd⟩ | ⟨hw, hd⟩
  · rw [if_pos hw]
    refine .inl ?_
    have hk : kindOp o.op ≠ 2 := by rcases hv with ⟨h, _⟩ | ⟨h, _⟩ <;> rw [h] <;> decide
    have hrun : (execOp a'.eval o).run P w = .ok (.value v) w := by
      rw [exec_same (kind_no_select hk) hlook]
      rcases hv with ⟨_, h⟩ | ⟨_, _, h⟩
      · exact h w
      · exact h
    unfold Oper.wp
    rw [hrun, Oper.upon_value]
    exact K _ (hlag.put hs ho v hd)
  · rw [if_neg (by rw [hw]; decide)]
    exact K _ (hlag.put hs ho undef hd)
theorem listed_set_mem {listed : Array Bool} {pr : List Nat} (hl : ∀ i, listed.getD i false = true → i ∈ pr) {i : Nat} (hi : i ∈ pr) : ∀ k, (listed.setIfInBounds i true).getD k false = true → k ∈ pr := fun k hk => by
  by_cases h : i = k
  · subst h; exact hi
  · rw [getD_set_ne _ h] at hk; exact hl k hk
theorem unlisted_set {listed : Array Bool} {i k : Nat} (h : (listed.setIfInBounds i true).getD k false = false) : listed.getD k false = false := by
  cases hh : listed.getD k false with
  | false => rfl
  | true => rw [getD_set_true hh] at h; cases h
theorem sg_any (hT : tmpsB ops = true) (hS : Region.noSelect ops = true) {Q : Act → World → Prop} : ∀ (fuel : Nat) (rest : List Nat) (listed : Array Bool) (pr : List Nat) (ls : List (Nat × Value)) (a a' : Act) (w : World),
    listed.size = ops.size → left_ ops listed ≤ fuel → ordB ops pr rest = true → Dn ops pr → (∀ i, listed.getD i false = true → i ∈ pr) → (∀ i ∈ pr, listed.getD i false = false → Pending P ops ls a w i) → Lags ops listed pr a a' →
    SG P ops Q rest ls a w → wpAny P .any ops (onlyNormal Q) fuel listed a' w := by
  intro fuel
  induction fuel with
  | zero =>
    intro rest
    induction rest with
    | nil =>
      intro listed pr ls a a' w hs hf hord hDn hl hp hlag h
      have all : ∀ i, i < ops.size → listed.getD i false = true := fun i hi => left_zero hs (by omega) hi
      refine ⟨?_, ?_⟩
      · by_cases hr : Region.ready .any ops listed = []
        · exact hr
        · obtain ⟨i, hi⟩ := List.exists_mem_of_ne_nil _ hr
          obtain ⟨h1, o, ho, _⟩ := mem_ready.1 hi
          have hi := (Array.getElem?_eq_some_iff.1 ho).1
          rw [getD_true_of (by rw [hs]; exact hi), all i hi] at h1
          cases h1
      · have : a' = a := by
          cases a; cases a'
          have e1 := hlag.defers
          have e2 : ∀ t : Nat, _ := fun t => hlag.same t fun i o hi hli ho => by
            rw [all i (Array.getElem?_eq_some_iff.1 ho).1] at hli; cases hli
          simp only at e1 e2
          rw [Act.mk.injEq]
          exact ⟨Array.ext_getElem? e2, e1⟩
        rw [this]
        exact h
    | cons i rest _ =>
      intro listed pr ls a a' w hs hf hord hDn hl hp hlag h
      simp only [ordB, Bool.and_eq_true, Bool.not_eq_true', decide_eq_true_eq] at hord
      have := hl i (left_zero hs (by omega) hord.1.1.1.2)
      have hc := hord.1.1.1.1
      simp [this] at hc
  | succ fuel ihf =>
    intro rest
    induction rest with
    | nil =>
      intro listed pr ls a a' w hs hf hord hDn hl hp hlag h
      have hall : ∀ i, i < ops.size → i ∈ pr := fun i hi => by
        simp only [ordB] at hord
        simpa using List.all_eq_true.1 hord i (List.mem_range.2 hi)
      refine ⟨fun hr => ?_, fun i hi => ?_⟩
      · have all : ∀ i, i ∈ pr → listed.getD i false = true := fun i hi => by
          by_cases hh : listed.getD i false = true
          · exact hh
          · obtain ⟨k, _, hk⟩ := hDn.ready hs ⟨i, hi, by simpa using hh⟩
            rw [hr] at hk; cases hk
        have : a' = a := by
          cases a; cases a'
          have e1 := hlag.defers
          have e2 : ∀ t : Nat, _ := fun t => hlag.same t fun i o hi hli ho => by
            rw [all i hi] at hli; cases hli
          simp only at e1 e2
          rw [Act.mk.injEq]
          exact ⟨Array.ext_getElem? e2, e1⟩
        rw [this]
        exact h
      · obtain ⟨hil, o, ho, _⟩ := mem_ready.1 hi
        have hi' := (Array.getElem?_eq_some_iff.1 ho).1
        rw [getD_true_of (by rw [hs]; exact hi')] at hil
        exact pend_step hT hs hp hlag hi (hall i hi') fun a'' hlag' => ihf [] _ pr ls a a'' w (by simp [hs]) (by have := left_set hs hi' hil; omega) hord hDn (listed_set_mem hl (hall i hi')) (fun k hk hkl => hp k hk (unlisted_set hkl)) hlag' h
    | cons e rest ihr =>
      intro listed pr ls a a' w hs hf hord hDn hl hp hlag h
      have hord0 := hord
      simp only [ordB, Bool.and_eq_true, Bool.not_eq_true', decide_eq_true_eq] at hord
      obtain ⟨⟨⟨⟨hc, he⟩, hw8⟩, heff⟩, hord'⟩ := hord
      have hc' : e ∉ pr := fun hm => by simp [hm] at hc
      have hwt : ∀ k, waits ops e k = true → k ∈ pr := fun k hk => by
        obtain ⟨ed, hed, hb, rfl⟩ := (waits_spec (Array.getElem?_eq_getElem he)).1 hk
        rw [Array.getElem?_eq_getElem he, Option.map_some, Option.getD_some, Array.all_eq_true_iff_forall_mem] at hw8
        have := hw8 ed hed
        simpa [hb] using this
      have hel : listed.getD e false = false := by
        cases hh : listed.getD e false with
        | false => rfl
        | true => exact absurd (hl e hh) hc'
      have hDn' : Dn ops (e :: pr) := ⟨hwt, hc', he, hDn⟩
      obtain ⟨o, ho, hgo⟩ := h
      -- what a walked operation looks at is not what e writes
      have hlk : ∀ k ok, k ∈ pr → ops[k]? = some ok → ∀ d, o.dst = some d → d ∉ ok.looksAt ops ∧ ok.dst ≠ some d := fun k ok hk hok d hd => by
        have hne : k ≠ e := fun hh => hc' (hh ▸ hk)
        refine ⟨fun hm => ?_, (tmps_spec hT hok ho hd).2 hne⟩
        exact hc' (hDn.dep hk ((tmps_spec hT hok ho hd).1 hm).1)
      have hlook : ∀ (v : Value) k ok, k ∈ pr → ops[k]? = some ok → ∀ t ∈ ok.looksAt ops, (a.put o.dst v).tmps[t]? = a.tmps[t]? := fun v k ok hk hok t ht =>
        put_same fun hd => (hlk k ok hk hok t hd).1 ht
      have hown : ∀ (v : Value), ∀ t ∈ o.looksAt ops, (a.put o.dst v).tmps[t]? = a.tmps[t]? := fun v t ht =>
        put_same fun hd => by have := ((tmps_spec hT ho ho hd).1 ht).2; exact this rfl
      -- what is pending stays so behind e, if it yields the same in the world behind it
      have hkeep : ∀ (v : Value) (w' : World) (ls' : List (Nat × Value)), (∀ x ∈ ls, x ∈ ls') → (∀ k ∈ pr, listed.getD k false = false → ∀ ok u, ops[k]? = some ok → kindOp ok.op = 1 → (k, u) ∈ ls → (execOp a.eval ok).run P w = .ok (.value u) w → (execOp a.eval ok).run P w' = .ok (.value u) w') →
          ∀ k ∈ pr, listed.getD k false = false → Pending P ops ls' (a.put o.dst v) w' k := fun v w' ls' hsub hst k hk hkl => by
        obtain ⟨ok, hok, hpe⟩ := hp k hk hkl
        refine ⟨ok, hok, ?_⟩
        have hd' : ∀ (u : Value), (∀ d, ok.dst = some d → d < a.tmps.size → a.tmps[d]? = some u) → ∀ d, ok.dst = some d → d < (a.put o.dst v).tmps.size → (a.put o.dst v).tmps[d]? = some u := fun u hu d hd hlt => by
          rw [put_same (fun hod => (hlk k ok hk hok d hod).2 hd)]
          exact hu d hd (by rwa [put_size] at hlt)
        rw [wanted_same (hlook v k ok hk hok)]
        rcases hpe with ⟨hw, u, hv, hd⟩ | ⟨hw, hd⟩
        · refine .inl ⟨hw, u, ?_, hd' u hd⟩
          have hne : kindOp ok.op ≠ 2 := by rcases hv with ⟨h, _⟩ | ⟨h, _⟩ <;> rw [h] <;> decide
          rw [exec_same (kind_no_select hne) (hlook v k ok hk hok)]
          rcases hv with h | ⟨h1, h2, h3⟩
          · exact .inl h
          · exact .inr ⟨h1, hsub _ h2, hst k hk hkl ok u hok h1 h2 h3⟩
        · exact .inr ⟨hw, hd' _ hd⟩
      have hlagP : ∀ (v : Value), Lags ops listed (e :: pr) (a.put o.dst v) a' := fun v => by
        refine ⟨by rw [put_defers]; exact hlag.defers, by rw [put_size]; exact hlag.size, fun t ht => ?_⟩
        rw [put_same (ht e o List.mem_cons_self hel ho)]
        exact hlag.same t fun k ok hk => ht k ok (List.mem_cons_of_mem _ hk)
      have hlP : ∀ i, listed.getD i false = true → i ∈ e :: pr := fun i hi => List.mem_cons_of_mem _ (hl i hi)
      by_cases hwant : Region.wanted o (yielded ops a.tmps) = true
      · rw [if_pos hwant] at hgo
        by_cases hk0 : kindOp o.op = 0
        · rw [if_pos hk0] at hgo
          obtain ⟨v, hv, hrest⟩ := hgo
          refine ihr listed (e :: pr) ls (a.put o.dst v) a' w hs hf hord' hDn' hlP (fun k hk hkl => ?_) (hlagP v) hrest
          rcases List.mem_cons.1 hk with rfl | hk
          · refine ⟨o, ho, .inl ⟨by rw [wanted_same (hown v)]; exact hwant, v, .inl ⟨hk0, fun W => ?_⟩, fun d hd hlt => ?_⟩⟩
            · rw [exec_same (kind_no_select (by rw [hk0]; decide)) (hown v)]; exact hv W
            · rw [hd]; exact put_at (by rwa [put_size] at hlt)
          · exact hkeep v w ls (fun _ h => h) (fun _ _ _ _ _ _ _ _ h => h) k hk hkl
        · rw [if_neg hk0] at hgo
          by_cases hk1 : kindOp o.op = 1
          · rw [if_pos hk1] at hgo
            obtain ⟨v, hv, hrest⟩ := hgo
            refine ihr listed (e :: pr) ((e, v) :: ls) (a.put o.dst v) a' w hs hf hord' hDn' hlP (fun k hk hkl => ?_) (hlagP v) hrest
            rcases List.mem_cons.1 hk with rfl | hk
            · refine ⟨o, ho, .inl ⟨by rw [wanted_same (hown v)]; exact hwant, v, .inr ⟨hk1, List.mem_cons_self, ?_⟩, fun d hd hlt => ?_⟩⟩
              · rw [exec_same (kind_no_select (by rw [hk1]; decide)) (hown v)]; exact hv
              · rw [hd]; exact put_at (by rwa [put_size] at hlt)
            · exact hkeep v w _ (fun _ h => List.mem_cons_of_mem _ h) (fun _ _ _ _ _ _ _ _ h => h) k hk hkl
          · rw [if_neg hk1] at hgo
            -- an effect: it comes now, or something that is pending comes
            have hk2 : opKind ops e = 2 := by
              unfold opKind; rw [ho]
              have : kindOp o.op = 0 ∨ kindOp o.op = 1 ∨ kindOp o.op = 2 := by unfold kindOp; split <;> (try split) <;> simp
              simp only [Option.map_some, Option.getD_some]; omega
            have hothers : ∀ k, k < ops.size → k ∉ pr → k ≠ e → ∃ j, waits ops k j = true ∧ j ∉ pr := fun k hk hkp hke => by
              rw [hk2] at heff
              have h8 : ∀ (x : Nat), x < ops.size → (x ∈ pr ∨ x = e) ∨ ∃ x_1, x_1 < ops.size ∧ waits ops x x_1 = true ∧ ¬x_1 ∈ pr := by simpa using heff
              rcases h8 k hk with (h | h) | ⟨j, _, h1, h2⟩
              · exact absurd h hkp
              · exact absurd h hke
              · exact ⟨j, h1, h2⟩
            refine ⟨fun hr => ?_, fun i hi => ?_⟩
            · -- something may come
              by_cases hpe : ∃ i ∈ pr, listed.getD i false = false
              · obtain ⟨k, _, hk⟩ := hDn.ready hs hpe
                rw [hr] at hk; cases hk
              · have : e ∈ Region.ready .any ops listed := mem_ready.2 ⟨by rw [getD_true_of (by rw [hs]; exact he)]; exact hel, o, ho, fun ed hed hb => by
                  by_cases hh : listed.getD ed.on false = true
                  · exact hh
                  · exact absurd ⟨ed.on, hwt _ ((waits_spec ho).2 ⟨ed, hed, hb, rfl⟩), by simpa using hh⟩ hpe⟩
                rw [hr] at this; cases this
            · obtain ⟨hil, oi, hoi, _⟩ := mem_ready.1 hi
              have hi' := (Array.getElem?_eq_some_iff.1 hoi).1
              rw [getD_true_of (by rw [hs]; exact hi')] at hil
              by_cases hip : i ∈ pr
              · exact pend_step hT hs hp hlag hi hip fun a'' hlag' => ihf (e :: rest) _ pr ls a a'' w (by simp [hs]) (by have := left_set hs hi' hil; omega) hord0 hDn (listed_set_mem hl hip) (fun k hk hkl => hp k hk (unlisted_set hkl)) hlag'
                  ⟨o, ho, by rw [if_pos hwant, if_neg hk0, if_neg hk1]; exact hgo⟩
              · have hie : i = e := by
                  by_cases hie : i = e
                  · exact hie
                  · obtain ⟨j, h1, h2⟩ := hothers i hi' hip hie
                    exact absurd (hl j (ready_waits hi h1)) h2
                subst hie
                rw [ho] at hoi
                cases hoi
                have hlk0 := lag_looks hT hlag ho hi
                have hnsel := Region.noSelect_spec hS i o
                unfold wpOp
                simp only [ho]
                rw [wanted_same hlk0, if_pos hwant]
                refine .inl ?_
                unfold Oper.wp
                rw [exec_same (fun cs b => hnsel cs b ho) hlk0]
                have next : ∀ v w', (Stab P ops i a w' ls ∧ SG P ops Q rest ls (a.put o.dst v) w') → wpAny P .any ops (onlyNormal Q) fuel (listed.setIfInBounds i true) (a'.put o.dst v) w' := fun v w' ⟨hst, hrest⟩ => by
                  refine ihf rest _ (i :: pr) ls (a.put o.dst v) (a'.put o.dst v) w' (by simp [hs]) (by have := left_set hs hi' hil; omega) hord' hDn' (fun k hk => ?_) (fun k hk hkl => ?_) ?_ hrest
                  · by_cases h : i = k
                    · subst h; exact List.mem_cons_self
                    · rw [getD_set_ne _ h] at hk; exact List.mem_cons_of_mem _ (hl k hk)
                  · rcases List.mem_cons.1 hk with rfl | hk
                    · rw [getD_set_self (by rw [hs]; exact hi')] at hkl; cases hkl
                    · refine hkeep v w' ls (fun _ h => h) (fun k hk hkl ok u hok _ hm _ => ?_) k hk (unlisted_set hkl)
                      have hnw : waits ops i k = false := by
                        cases hh : waits ops i k with
                        | false => rfl
                        | true => rw [ready_waits hi hh] at hkl; cases hkl
                      obtain ⟨ok', hok', hrun⟩ := hst.at hm hnw
                      rw [hok] at hok'; cases hok'
                      exact hrun
                  · have hlg : Lags ops (listed.setIfInBounds i true) (i :: pr) (a.put o.dst v) (a'.put o.dst v) := by
                      refine ⟨by rw [put_defers, put_defers]; exact hlag.defers, by rw [put_size, put_size]; exact hlag.size, fun t ht => ?_⟩
                      by_cases hd : o.dst = some t
                      · rw [hd]
                        by_cases hlt : t < a.tmps.size
                        · rw [put_at (by rw [hlag.size]; exact hlt), put_at hlt]
                        · rw [Array.getElem?_eq_none (by rw [put_size, hlag.size]; exact Nat.not_lt.1 hlt), Array.getElem?_eq_none (by rw [put_size]; exact Nat.not_lt.1 hlt)]
                      · rw [put_same hd, put_same hd]
                        refine hlag.same t fun k ok hk hkl hok => ?_
                        by_cases hki : k = i
                        · subst hki; rw [ho] at hok; cases hok; exact hd
                        · exact ht k ok (List.mem_cons_of_mem _ hk) (by rw [getD_set_ne _ (fun e => hki e.symm)]; exact hkl) hok
                    exact hlg
                revert hgo
                generalize (execOp a.eval o).run P w = r
                intro hgo
                cases r with
                | halt x w' => exact hgo.elim
                | ok n w' =>
                  cases n with
                  | value v => rw [Oper.upon_value]; exact next v w' hgo
                  | skip => rw [Oper.upon_skip]; exact next undef w' hgo
                  | enter f args =>
                    rw [Oper.upon_enter]
                    refine Calls.mono hgo fun e' w'' ⟨v, he', hn⟩ => ?_
                    subst he'
                    exact next v w'' hn
                  | _ => exact hgo.elim
      · rw [if_neg hwant] at hgo
        have hwf : Region.wanted o (yielded ops a.tmps) = false := by simpa using hwant
        refine ihr listed (e :: pr) ls (a.put o.dst undef) a' w hs hf hord' hDn' hlP (fun k hk hkl => ?_) (hlagP undef) hgo
        rcases List.mem_cons.1 hk with rfl | hk
        · refine ⟨o, ho, .inr ⟨by rw [wanted_same (hown undef)]; exact hwf, fun d hd hlt => ?_⟩⟩
          rw [hd]; exact put_at (by rwa [put_size] at hlt)
        · exact hkeep undef w ls (fun _ h => h) (fun _ _ _ _ _ _ _ _ h => h) k hk hkl
theorem wp_region_sg {id : Nat} {Q : Exit → Act → World → Prop} {a : Act} {w : World} (hm : P.follows .mixedOrders = true) (ord : List Nat) (hT : tmpsB ops = true) (hS : Region.noSelect ops = true) (hO : ordB ops [] ord = true)
    (h : SG P ops (Q .normal) ord [] a w.drew) : (Code.region id ops true).wp P Q a w := by
  refine wp_region_any hm ?_
  have key : ∀ fuel listed a w, wpAny P .any ops (onlyNormal (Q .normal)) fuel listed a w → wpAny P .any ops Q fuel listed a w := by
    have hop : ∀ (i : Nat) (K : Act → World → Prop) (a : Act) (w : World), wpOp P ops (onlyNormal (Q .normal)) i K a w → wpOp P ops Q i K a w := fun i K a w h => by
      unfold wpOp at *
      split
      · rename_i hn; simpa [hn] using h
      · rename_i o ho
        simp only [ho] at h
        split
        · rename_i hw
          rw [if_pos hw] at h
          rcases h with h | ⟨h1, a0, w0, h2⟩
          · refine .inl ?_
            unfold Oper.wp at *
            generalize (execOp a.eval o).run P w = r at *
            cases r with
            | ok n w' =>
              cases n <;> simp only [Oper.upon] at h ⊢ <;> first
                | exact h
                | exact Calls.mono h (fun e w'' he => by cases e <;> first | exact he | exact he.elim | (obtain ⟨_, _, hh⟩ := he; exact hh.elim))
            | halt x w' => cases x <;> simp only [Oper.upon, onlyNormal] at h ⊢
          · exact h2.elim
        · rename_i hw
          rw [if_neg hw] at h
          exact h
    intro fuel
    induction fuel with
    | zero => exact fun listed a w h => h
    | succ fuel ih => exact fun listed a w h => ⟨h.1, fun i hi => hop _ _ _ _ (wpOp_mono (fun a w => ih _ a w) (h.2 i hi))⟩
  refine key _ _ _ _ (sg_any hT hS ops.size ord _ [] [] a a _ (by simp) ?_ hO trivial (fun i hi => ?_) (fun i hi => by cases hi) ⟨rfl, rfl, fun t _ => rfl⟩ h)
  · unfold left_
    exact Nat.le_trans (List.countP_le_length) (by simp)
  · rw [getD_replicate_false] at hi; cases hi
end
end Go.Proofs.YtfommmijojfdbaaGreatDoor
