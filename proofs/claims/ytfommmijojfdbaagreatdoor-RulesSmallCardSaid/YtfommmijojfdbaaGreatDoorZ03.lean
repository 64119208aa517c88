/- Part 4 of the proof that 'spoondriftlaw19.RulesApplies' holds for every input; it has no condition beyond the statement's own. -/
import Derived.Test.YtfommmijojfdbaaGreatDoorZ01
import Derived.Below
set_option linter.all false
namespace Go.Proofs.YtfommmijojfdbaaGreatDoor
open Go.RowKit
section
variable {P : Program} {ops : Array Oper}
def depsLt (ops : Array Oper) : Bool := (List.range ops.size).all fun i => ((ops[i]?).map fun o => o.after.all fun e => !Region.binds .any e || decide (e.on < i)).getD true
structure MrLook (ops : Array Oper) (R : Nat → Value → World → Prop) (n : Nat) (a a' : Act) (w : World) (i : Nat) : Prop where
  size : a'.tmps.size = a.tmps.size
  same : ∀ t, (∀ k ok, ops[k]? = some ok → k ≠ n → ok.dst ≠ some t) → a'.tmps[t]? = a.tmps[t]?
  has : ∀ k ok, ops[k]? = some ok → waits ops i k = true → k ≠ n → ∃ v, R k v w ∧ ∀ d, ok.dst = some d → d < a.tmps.size → a'.tmps[d]? = some v
structure MrAt (ops : Array Oper) (R : Nat → Value → World → Prop) (n : Nat) (listed : Array Bool) (a a' : Act) (w : World) : Prop where
  defers : a'.defers = a.defers
  size : a'.tmps.size = a.tmps.size
  same : ∀ t, (∀ k ok, ops[k]? = some ok → k ≠ n → ok.dst ≠ some t) → a'.tmps[t]? = a.tmps[t]?
  has : ∀ k ok, ops[k]? = some ok → listed.getD k false = true → k ≠ n → ∃ v, R k v w ∧ ∀ d, ok.dst = some d → d < a.tmps.size → a'.tmps[d]? = some v
theorem eff_to_wp {o : Oper} {a : Act} {w : World} {K : Act → World → Prop} {Qx : Exit → Act → World → Prop} (h : effUpon P (fun v w' => K (a.put o.dst v) w') ((execOp a.eval o).run P w)) : o.wp P a w K Qx := by
  unfold Oper.wp
  generalize (execOp a.eval o).run P w = r at h ⊢
  cases r with
  | ok n w' =>
    cases n with
    | value v => rw [Oper.upon_value]; exact h
    | skip => rw [Oper.upon_skip]; exact h
    | enter f args =>
      rw [Oper.upon_enter]
      refine Calls.mono h fun e' w'' ⟨v, he', hn⟩ => ?_
      subst he'
      exact hn
    | _ => exact h.elim
  | _ => exact h.elim
theorem effUpon.mono {next next' : Value → World → Prop} (hn : ∀ v w, next v w → next' v w) {r : Result Next} (h : effUpon P next r) : effUpon P next' r := by
  cases r with
  | ok n w' =>
    cases n with
    | value v => exact hn _ _ h
    | skip => exact hn _ _ h
    | enter f args => exact Calls.mono h fun e w'' ⟨v, he, hv⟩ => ⟨v, he, hn _ _ hv⟩
    | _ => exact h.elim
  | _ => exact h.elim
theorem all_listed {Q : Exit → Act → World → Prop} {listed : Array Bool} (hs : listed.size = ops.size) (h : ∀ i, i < ops.size → listed.getD i false = true) {a : Act} {w : World} (hq : Q .normal a w) : ∀ fuel, wpAny P .any ops Q fuel listed a w := by
  have hr : Region.ready .any ops listed = [] := by
    by_cases hr : Region.ready .any ops listed = []
    · exact hr
    · obtain ⟨i, hi⟩ := List.exists_mem_of_ne_nil _ hr
      obtain ⟨h1, o, ho, _⟩ := mem_ready.1 hi
      have hi := (Array.getElem?_eq_some_iff.1 ho).1
      rw [getD_true_of (by rw [hs]; exact hi), h i hi] at h1
      cases h1
  intro fuel
  cases fuel with
  | zero => exact ⟨hr, hq⟩
  | succ fuel => exact ⟨fun _ => hq, fun i hi => by rw [hr] at hi; cases hi⟩
theorem least_ready (hD : depsLt ops = true) {listed : Array Bool} (hs : listed.size = ops.size) : ∀ n, n < ops.size → listed.getD n false = false → Region.ready .any ops listed ≠ [] := by
  intro n
  induction n using Nat.strongRecOn with
  | ind n ih =>
    intro hn hl
    by_cases hr : n ∈ Region.ready .any ops listed
    · exact fun e => by rw [e] at hr; cases hr
    · have h1 := List.all_eq_true.1 hD n (List.mem_range.2 hn)
      rw [Array.getElem?_eq_getElem hn, Option.map_some, Option.getD_some, Array.all_eq_true_iff_forall_mem] at h1
      have : ∃ e ∈ (ops[n]).after, Region.binds .any e = true ∧ listed.getD e.on false = false := by
        refine Classical.byContradiction fun hx => hr (mem_ready.2 ⟨by rw [getD_true_of (by rw [hs]; exact hn)]; exact hl, _, Array.getElem?_eq_getElem hn, fun e he hb => ?_⟩)
        by_cases hle : listed.getD e.on false = true
        · exact hle
        · exact absurd ⟨e, he, hb, by simpa using hle⟩ hx
      obtain ⟨e, he, hb, hle⟩ := this
      have h2 := h1 e he
      rw [hb] at h2
      simp only [Bool.not_true, Bool.false_or, decide_eq_true_eq] at h2
      exact ih e.on h2 (by omega) hle
theorem mr_any (hT : tmpsB ops = true) (hD : depsLt ops = true) {n : Nat} (hn : n < ops.size) (hL : ((List.range ops.size).all fun k => k == n || waits ops n k) = true)
    {R : Nat → Value → World → Prop} {G : World → Prop} (hR : ∀ i v w w', R i v w → Below w.heap.size w w' → R i v w') (hG : ∀ w w', G w → Below w.heap.size w w' → G w') {a : Act} {Q : Act → World → Prop}
    (hstep : ∀ i o a' w, ops[i]? = some o → i ≠ n → MrLook ops R n a a' w i → G w → Region.wanted o (yielded ops a'.tmps) = true ∧ effUpon P (fun v w' => Below w.heap.size w w' ∧ R i v w') ((execOp a'.eval o).run P w))
    (hfin : ∀ a' w, a'.defers = a.defers → MrLook ops R n a a' w n → G w → ∃ o, ops[n]? = some o ∧ Region.wanted o (yielded ops a'.tmps) = true ∧ effUpon P (fun v w' => Q (a'.put o.dst v) w') ((execOp a'.eval o).run P w)) :
    ∀ (fuel : Nat) (listed : Array Bool) (a' : Act) (w : World), listed.size = ops.size → left_ ops listed ≤ fuel → listed.getD n false = false → MrAt ops R n listed a a' w → G w → wpAny P .any ops (onlyNormal Q) fuel listed a' w := by
  intro fuel
  induction fuel with
  | zero =>
    intro listed a' w hs hf hl _ _
    have := left_zero hs (by omega) hn
    rw [this] at hl; cases hl
  | succ fuel ih =>
    intro listed a' w hs hf hl hat hg
    refine ⟨fun hr => absurd hr (least_ready hD hs n hn hl), fun i hi => ?_⟩
    obtain ⟨hli, o, ho, hall⟩ := mem_ready.1 hi
    have hi' := (Array.getElem?_eq_some_iff.1 ho).1
    rw [getD_true_of (by rw [hs]; exact hi')] at hli
    have hlook : MrLook ops R n a a' w i := ⟨hat.size, hat.same, fun k ok hk hw hkn => hat.has k ok hk (ready_waits hi hw) hkn⟩
    unfold wpOp
    simp only [ho]
    by_cases hin : i = n
    · subst hin
      obtain ⟨o', ho', hwt, he⟩ := hfin a' w hat.defers hlook hg
      rw [ho] at ho'
      cases ho'
      rw [if_pos hwt]
      refine .inl (eff_to_wp (he.mono fun v w' hq => all_listed (by simp [hs]) (fun k hk => ?_) hq fuel))
      by_cases hki : k = i
      · subst hki; exact getD_set_self (by rw [hs]; exact hi')
      · rw [getD_set_ne _ (fun e => hki e.symm)]
        have h1 := List.all_eq_true.1 hL k (List.mem_range.2 hk)
        simp only [Bool.or_eq_true, beq_iff_eq] at h1
        exact ready_waits hi (h1.resolve_left hki)
    · obtain ⟨hwt, he⟩ := hstep i o a' w ho hin hlook hg
      rw [if_pos hwt]
      refine .inl (eff_to_wp (he.mono fun v w' ⟨hb, hr⟩ => ih _ _ _ (by simp [hs]) (by have := left_set hs hi' hli; omega) (by rw [getD_set_ne _ hin]; exact hl) ⟨by rw [put_defers]; exact hat.defers, by rw [put_size]; exact hat.size, fun t ht => ?_, fun k ok hk hkl hkn => ?_⟩ (hG _ _ hg hb)))
      · rw [put_same (ht i o ho hin)]
        exact hat.same t ht
      · by_cases hki : k = i
        · subst hki
          rw [ho] at hk
          cases hk
          refine ⟨v, hr, fun d hd hlt => ?_⟩
          rw [hd]
          exact put_at (by rw [hat.size]; exact hlt)
        · rw [getD_set_ne _ (fun e => hki e.symm)] at hkl
          obtain ⟨u, hu, hud⟩ := hat.has k ok hk hkl hkn
          refine ⟨u, hR _ _ _ _ hu hb, fun d hd hlt => ?_⟩
          rw [put_same ((tmps_spec hT ho hk hd).2 (fun e => hki e.symm))]
          exact hud d hd hlt
theorem only_normal {Q : Exit → Act → World → Prop} : ∀ (fuel : Nat) (listed : Array Bool) (a : Act) (w : World), wpAny P .any ops (onlyNormal (Q .normal)) fuel listed a w → wpAny P .any ops Q fuel listed a w := by
  have hop : ∀ (i : Nat) (K : Act → World → Prop) (a : Act) (w : World), wpOp P ops (onlyNormal (Q .normal)) i K a w → wpOp P ops Q i K a w := fun i K a w h => by
    unfold wpOp at *
    split
    · rename_i hn; simpa [hn] using h
    · rename_i o ho
      simp only [ho] at h
      split
      · rename_i hw
        rw [if_pos hw] at h
        rcases h with h | ⟨h1, a0, w0, h2⟩
        · refine .inl ?_
          unfold Oper.wp at *
          generalize (execOp a.eval o).run P w = r at *
          cases r with
          | ok n w' =>
            cases n <;> simp only [Oper.upon] at h ⊢ <;> first
              | exact h
              | exact Calls.mono h (fun e w'' he => by cases e <;> first | exact he | exact he.elim | (obtain ⟨_, _, hh⟩ := he; exact hh.elim))
          | halt x w' => cases x <;> simp only [Oper.upon, onlyNormal] at h ⊢
        · exact h2.elim
      · rename_i hw
        rw [if_neg hw] at h
        exact h
  intro fuel
  induction fuel with
  | zero => exact fun listed a w h => h
  | succ fuel ih => exact fun listed a w h => ⟨h.1, fun i hi => hop _ _ _ _ (wpOp_mono (fun a w => ih _ a w) (h.2 i hi))⟩
theorem wp_region_mr {id : Nat} {Q : Exit → Act → World → Prop} {a : Act} {w : World} (hm : P.follows .mixedOrders = true) (n : Nat) (hT : tmpsB ops = true) (hD : depsLt ops = true) (hn : n < ops.size) (hL : ((List.range ops.size).all fun k => k == n || waits ops n k) = true)
    (R : Nat → Value → World → Prop) (G : World → Prop) (hR : ∀ i v w w', R i v w → Below w.heap.size w w' → R i v w') (hG : ∀ w w', G w → Below w.heap.size w w' → G w') (h0 : G w)
    (hstep : ∀ i o a' w, ops[i]? = some o → i ≠ n → MrLook ops R n a a' w i → G w → Region.wanted o (yielded ops a'.tmps) = true ∧ effUpon P (fun v w' => Below w.heap.size w w' ∧ R i v w') ((execOp a'.eval o).run P w))
    (hfin : ∀ a' w, a'.defers = a.defers → MrLook ops R n a a' w n → G w → ∃ o, ops[n]? = some o ∧ Region.wanted o (yielded ops a'.tmps) = true ∧ effUpon P (fun v w' => Q .normal (a'.put o.dst v) w') ((execOp a'.eval o).run P w)) :
    (Code.region id ops true).wp P Q a w := by
  refine wp_region_any hm ?_
  refine only_normal _ _ _ _ (mr_any hT hD hn hL hR hG hstep hfin ops.size _ a _ (by simp) ?_ ?_ ⟨rfl, rfl, fun t _ => rfl, fun k ok hk hl => ?_⟩ (hG _ _ h0 (Below.drew (Below.refl _ _))))
  · unfold left_
    exact Nat.le_trans (List.countP_le_length) (by simp)
  · rw [getD_replicate_false]
  · rw [getD_replicate_false] at hl; cases hl
end
end Go.Proofs.YtfommmijojfdbaaGreatDoor
namespace Go.Proofs.YtfommmijojfdbaaGreatDoor
inductive Ord_ | fin | stop | op (i : Nat) (t : Ord_) | alt (head : Bool) (i : Nat) (t e : Ord_)
def Ord_.ids : Ord_ → List Nat
  | .alt _ i _ e => i :: e.ids
  | _ => []
def Ord_.whole : Ord_ → Bool
  | .fin => true
  | .op .. => true
  | .alt h .. => h
  | .stop => false
def depsB (ops : Array Oper) (pr : List Nat) (i : Nat) : Bool := !pr.contains i && decide (i < ops.size) && ((ops[i]?).map fun o => o.after.all fun e => !Region.binds .any e || pr.contains e.on).getD false
def ordT (ops : Array Oper) : List Nat → Ord_ → Bool
  | pr, .fin => (List.range ops.size).all fun i => pr.contains i
  | _, .stop => true
  | pr, .op i t => depsB ops pr i && t.whole && ordT ops (i :: pr) t
  | pr, .alt h i t e => depsB ops pr i && t.whole && ordT ops (i :: pr) t && ordT ops pr e &&
      (!h || (List.range ops.size).all fun k => pr.contains k || (i :: e.ids).contains k || (List.range ops.size).any fun j => waits ops k j && !pr.contains j)
section
variable (P : Program) (ops : Array Oper)
def ST (Q : Act → World → Prop) : Ord_ → List (Nat × Value) → Act → World → Prop
  | .fin, _, a, w => Q a w
  | .stop, _, _, _ => True
  | .op i t, ls, a, w => ∃ o, ops[i]? = some o ∧
      if Region.wanted o (yielded ops a.tmps) = true then
        (if kindOp o.op = 0 then ∃ v, (∀ W, (execOp a.eval o).run P W = .ok (.value v) W) ∧ ST Q t ls (a.put o.dst v) w
         else kindOp o.op = 1 ∧ ∃ v, (execOp a.eval o).run P w = .ok (.value v) w ∧ ST Q t ((i, v) :: ls) (a.put o.dst v) w)
      else ST Q t ls (a.put o.dst undef) w
  | .alt _ i t e, ls, a, w => (∃ o, ops[i]? = some o ∧ Region.wanted o (yielded ops a.tmps) = true ∧ effUpon P (fun v w' => Stab P ops i a w' ls ∧ ST Q t ls (a.put o.dst v) w') ((execOp a.eval o).run P w)) ∧ ST Q e ls a w
variable {P ops}
theorem ST.p {Q : Act → World → Prop} {i : Nat} {t : Ord_} {ls : List (Nat × Value)} {a : Act} {w : World} {o : Oper} {v : Value} {tl : List Oper} (ho : ops.toList.drop i = o :: tl) (hk : kindOp o.op = 0) (hw : Region.wanted o (yielded ops a.tmps) = true)
    (hv : ∀ W, (execOp a.eval o).run P W = .ok (.value v) W) (h : ST P ops Q t ls (a.put o.dst v) w) : ST P ops Q (.op i t) ls a w :=
  ⟨o, drop_at ho, by rw [if_pos hw, if_pos hk]; exact ⟨v, hv, h⟩⟩
theorem ST.l {Q : Act → World → Prop} {i : Nat} {t : Ord_} {ls : List (Nat × Value)} {a : Act} {w : World} {o : Oper} {v : Value} {tl : List Oper} (ho : ops.toList.drop i = o :: tl) (hk : kindOp o.op = 1) (hw : Region.wanted o (yielded ops a.tmps) = true)
    (hv : (execOp a.eval o).run P w = .ok (.value v) w) (h : ST P ops Q t ((i, v) :: ls) (a.put o.dst v) w) : ST P ops Q (.op i t) ls a w :=
  ⟨o, drop_at ho, by rw [if_pos hw, if_neg (by rw [hk]; decide)]; exact ⟨hk, v, hv, h⟩⟩
theorem ST.s {Q : Act → World → Prop} {i : Nat} {t : Ord_} {ls : List (Nat × Value)} {a : Act} {w : World} {o : Oper} {tl : List Oper} (ho : ops.toList.drop i = o :: tl) (hw : Region.wanted o (yielded ops a.tmps) = false)
    (h : ST P ops Q t ls (a.put o.dst undef) w) : ST P ops Q (.op i t) ls a w :=
  ⟨o, drop_at ho, by rw [if_neg (by rw [hw]; decide)]; exact h⟩
theorem ST.stop {Q : Act → World → Prop} {ls : List (Nat × Value)} {a : Act} {w : World} : ST P ops Q .stop ls a w := trivial
theorem ST.e {Q : Act → World → Prop} {b : Bool} {i : Nat} {t e : Ord_} {ls : List (Nat × Value)} {a : Act} {w : World} {o : Oper} {tl : List Oper} (ho : ops.toList.drop i = o :: tl) (hw : Region.wanted o (yielded ops a.tmps) = true)
    (h : effUpon P (fun v w' => Stab P ops i a w' ls ∧ ST P ops Q t ls (a.put o.dst v) w') ((execOp a.eval o).run P w)) (he : ST P ops Q e ls a w) : ST P ops Q (.alt b i t e) ls a w :=
  ⟨⟨o, drop_at ho, hw, h⟩, he⟩
theorem ST.v {Q : Act → World → Prop} {b : Bool} {i : Nat} {t e : Ord_} {ls : List (Nat × Value)} {a : Act} {w w' : World} {o : Oper} {v : Value} {tl : List Oper} (ho : ops.toList.drop i = o :: tl) (hw : Region.wanted o (yielded ops a.tmps) = true)
    (hv : (execOp a.eval o).run P w = .ok (.value v) w') (hs : Stab P ops i a w' ls) (h : ST P ops Q t ls (a.put o.dst v) w') (he : ST P ops Q e ls a w) : ST P ops Q (.alt b i t e) ls a w :=
  ST.e ho hw (by rw [hv]; exact ⟨hs, h⟩) he
theorem ST.k {Q : Act → World → Prop} {b : Bool} {i : Nat} {t e : Ord_} {ls : List (Nat × Value)} {a : Act} {w w' : World} {o : Oper} {tl : List Oper} (ho : ops.toList.drop i = o :: tl) (hw : Region.wanted o (yielded ops a.tmps) = true)
    (hv : (execOp a.eval o).run P w = .ok .skip w') (hs : Stab P ops i a w' ls) (h : ST P ops Q t ls (a.put o.dst undef) w') (he : ST P ops Q e ls a w) : ST P ops Q (.alt b i t e) ls a w :=
  ST.e ho hw (by rw [hv]; exact ⟨hs, h⟩) he
theorem ST.c {Q : Act → World → Prop} {b : Bool} {i : Nat} {t e : Ord_} {ls : List (Nat × Value)} {a : Act} {w w' : World} {o : Oper} {f : FuncId} {args : Array Value} {tl : List Oper} (ho : ops.toList.drop i = o :: tl) (hw : Region.wanted o (yielded ops a.tmps) = true)
    (hv : (execOp a.eval o).run P w = .ok (.enter f args) w') (h : Calls P f args w' fun e w'' => ∃ v, e = .returned v ∧ Stab P ops i a w'' ls ∧ ST P ops Q t ls (a.put o.dst v) w'') (he : ST P ops Q e ls a w) : ST P ops Q (.alt b i t e) ls a w :=
  ST.e ho hw (by rw [hv]; exact h) he
theorem ST.each {Q : Act → World → Prop} {ls : List (Nat × Value)} {a : Act} {w : World} {pr : List Nat} : ∀ {t : Ord_}, ST P ops Q t ls a w → ordT ops pr t = true → ∀ k ∈ t.ids, ∃ u o, depsB ops pr k = true ∧ u.whole = true ∧ ordT ops (k :: pr) u = true ∧ ops[k]? = some o ∧ Region.wanted o (yielded ops a.tmps) = true ∧
    effUpon P (fun v w' => Stab P ops k a w' ls ∧ ST P ops Q u ls (a.put o.dst v) w') ((execOp a.eval o).run P w)
  | .fin, _, _, k, hk => by cases hk
  | .stop, _, _, k, hk => by cases hk
  | .op .., _, _, k, hk => by cases hk
  | .alt b i t e, h, ho, k, hk => by
    obtain ⟨⟨o, h1, h2, h3⟩, h4⟩ := h
    simp only [ordT, Bool.and_eq_true] at ho
    rcases List.mem_cons.1 hk with rfl | hk
    · exact ⟨t, o, ho.1.1.1.1, ho.1.1.1.2, ho.1.1.2, h1, h2, h3⟩
    · exact ST.each h4 ho.1.2 k hk
theorem depsB_spec {pr : List Nat} {i : Nat} (h : depsB ops pr i = true) : i ∉ pr ∧ i < ops.size ∧ ∀ k, waits ops i k = true → k ∈ pr := by
  unfold depsB at h
  simp only [Bool.and_eq_true, Bool.not_eq_true', decide_eq_true_eq] at h
  obtain ⟨⟨hc, he⟩, hw8⟩ := h
  refine ⟨fun hm => by simp [hm] at hc, he, fun k hk => ?_⟩
  obtain ⟨ed, hed, hb, rfl⟩ := (waits_spec (Array.getElem?_eq_getElem he)).1 hk
  rw [Array.getElem?_eq_getElem he, Option.map_some, Option.getD_some, Array.all_eq_true_iff_forall_mem] at hw8
  have := hw8 ed hed
  simpa [hb] using this
theorem keep_pend (hT : tmpsB ops = true) {listed : Array Bool} {pr : List Nat} {ls : List (Nat × Value)} {a : Act} {w : World} (hDn : Dn ops pr) (hp : ∀ i ∈ pr, listed.getD i false = false → Pending P ops ls a w i) {e : Nat} {o : Oper} (hc' : e ∉ pr) (ho : ops[e]? = some o)
    (v : Value) (w' : World) (ls' : List (Nat × Value)) (hsub : ∀ x ∈ ls, x ∈ ls') (hst : ∀ k ∈ pr, listed.getD k false = false → ∀ ok u, ops[k]? = some ok → kindOp ok.op = 1 → (k, u) ∈ ls → (execOp a.eval ok).run P w = .ok (.value u) w → (execOp a.eval ok).run P w' = .ok (.value u) w') :
    ∀ k ∈ pr, listed.getD k false = false → Pending P ops ls' (a.put o.dst v) w' k := fun k hk hkl => by
  have hlk : ∀ k ok, k ∈ pr → ops[k]? = some ok → ∀ d, o.dst = some d → d ∉ ok.looksAt ops ∧ ok.dst ≠ some d := fun k ok hk hok d hd => by
    have hne : k ≠ e := fun hh => hc' (hh ▸ hk)
    refine ⟨fun hm => ?_, (tmps_spec hT hok ho hd).2 hne⟩
    exact hc' (hDn.dep hk ((tmps_spec hT hok ho hd).1 hm).1)
  have hlook : ∀ (v : Value) k ok, k ∈ pr → ops[k]? = some ok → ∀ t ∈ ok.looksAt ops, (a.put o.dst v).tmps[t]? = a.tmps[t]? := fun v k ok hk hok t ht =>
    put_same fun hd => (hlk k ok hk hok t hd).1 ht
  obtain ⟨ok, hok, hpe⟩ := hp k hk hkl
  refine ⟨ok, hok, ?_⟩
  have hd' : ∀ (u : Value), (∀ d, ok.dst = some d → d < a.tmps.size → a.tmps[d]? = some u) → ∀ d, ok.dst = some d → d < (a.put o.dst v).tmps.size → (a.put o.dst v).tmps[d]? = some u := fun u hu d hd hlt => by
    rw [put_same (fun hod => (hlk k ok hk hok d hod).2 hd)]
    exact hu d hd (by rwa [put_size] at hlt)
  rw [wanted_same (hlook v k ok hk hok)]
  rcases hpe with ⟨hw, u, hv, hd⟩ | ⟨hw, hd⟩
  · refine .inl ⟨hw, u, ?_, hd' u hd⟩
    have hne : kindOp ok.op ≠ 2 := by rcases hv with ⟨h, _⟩ | ⟨h, _⟩ <;> rw [h] <;> decide
    rw [exec_same (kind_no_select hne) (hlook v k ok hk hok)]
    rcases hv with h | ⟨h1, h2, h3⟩
    · exact .inl h
    · exact .inr ⟨h1, hsub _ h2, hst k hk hkl ok u hok h1 h2 h3⟩
  · exact .inr ⟨hw, hd' _ hd⟩
theorem act_eq {listed : Array Bool} {pr : List Nat} {a a' : Act} (hlag : Lags ops listed pr a a') (all : ∀ i, i ∈ pr → listed.getD i false = true) : a' = a := by
  cases a; cases a'
  have e1 := hlag.defers
  have e2 : ∀ t : Nat, _ := fun t => hlag.same t fun i o hi hli ho => by
    rw [all i hi] at hli; cases hli
  simp only at e1 e2
  rw [Act.mk.injEq]
  exact ⟨Array.ext_getElem? e2, e1⟩
theorem st_any (hT : tmpsB ops = true) (hS : Region.noSelect ops = true) {Q : Act → World → Prop} : ∀ (fuel : Nat) (t : Ord_) (listed : Array Bool) (pr : List Nat) (ls : List (Nat × Value)) (a a' : Act) (w : World),
    listed.size = ops.size → left_ ops listed ≤ fuel → t.whole = true → ordT ops pr t = true → Dn ops pr → (∀ i, listed.getD i false = true → i ∈ pr) → (∀ i ∈ pr, listed.getD i false = false → Pending P ops ls a w i) → Lags ops listed pr a a' →
    ST P ops Q t ls a w → wpAny P .any ops (onlyNormal Q) fuel listed a' w := by
  intro fuel
  induction fuel with
  | zero =>
    intro t
    have none_left : ∀ {listed : Array Bool} {pr : List Nat} {i : Nat}, listed.size = ops.size → left_ ops listed ≤ 0 → (∀ i, listed.getD i false = true → i ∈ pr) → depsB ops pr i = true → False := fun hs hf hl hd => by
      obtain ⟨h1, h2, _⟩ := depsB_spec hd
      exact h1 (hl _ (left_zero hs (by omega) h2))
    cases t with
    | fin =>
      intro listed pr ls a a' w hs hf hh hord hDn hl hp hlag h
      have all : ∀ i, i < ops.size → listed.getD i false = true := fun i hi => left_zero hs (by omega) hi
      refine ⟨?_, ?_⟩
      · by_cases hr : Region.ready .any ops listed = []
        · exact hr
        · obtain ⟨i, hi⟩ := List.exists_mem_of_ne_nil _ hr
          obtain ⟨h1, o, ho, _⟩ := mem_ready.1 hi
          have hi := (Array.getElem?_eq_some_iff.1 ho).1
          rw [getD_true_of (by rw [hs]; exact hi), all i hi] at h1
          cases h1
      · rw [show a' = a from by
          cases a; cases a'
          have e1 := hlag.defers
          have e2 : ∀ t : Nat, _ := fun t => hlag.same t fun i o hi hli ho => by
            rw [all i (Array.getElem?_eq_some_iff.1 ho).1] at hli; cases hli
          simp only at e1 e2
          rw [Act.mk.injEq]
          exact ⟨Array.ext_getElem? e2, e1⟩]
        exact h
    | stop => intro listed pr ls a a' w hs hf hh; cases hh
    | op i t =>
      intro listed pr ls a a' w hs hf hh hord hDn hl hp hlag h
      simp only [ordT, Bool.and_eq_true] at hord
      exact (none_left hs hf hl hord.1.1).elim
    | alt b i t e =>
      intro listed pr ls a a' w hs hf hh hord hDn hl hp hlag h
      simp only [ordT, Bool.and_eq_true] at hord
      exact (none_left hs hf hl hord.1.1.1.1).elim
  | succ fuel ihf =>
    intro t
    induction t with
    | stop => intro listed pr ls a a' w hs hf hh; cases hh
    | fin =>
      intro listed pr ls a a' w hs hf hh hord hDn hl hp hlag h
      have hall : ∀ i, i < ops.size → i ∈ pr := fun i hi => by
        simp only [ordT] at hord
        simpa using List.all_eq_true.1 hord i (List.mem_range.2 hi)
      refine ⟨fun hr => ?_, fun i hi => ?_⟩
      · rw [act_eq hlag fun i hi => by
          by_cases hh : listed.getD i false = true
          · exact hh
          · obtain ⟨k, _, hk⟩ := hDn.ready hs ⟨i, hi, by simpa using hh⟩
            rw [hr] at hk; cases hk]
        exact h
      · obtain ⟨hil, o, ho, _⟩ := mem_ready.1 hi
        have hi' := (Array.getElem?_eq_some_iff.1 ho).1
        rw [getD_true_of (by rw [hs]; exact hi')] at hil
        exact pend_step hT hs hp hlag hi (hall i hi') fun a'' hlag' => ihf .fin _ pr ls a a'' w (by simp [hs]) (by have := left_set hs hi' hil; omega) hh hord hDn (listed_set_mem hl (hall i hi')) (fun k hk hkl => hp k hk (unlisted_set hkl)) hlag' h
    | op e t iht =>
      intro listed pr ls a a' w hs hf hh hord hDn hl hp hlag h
      simp only [ordT, Bool.and_eq_true] at hord
      obtain ⟨⟨hd, hth⟩, hord'⟩ := hord
      obtain ⟨hc', he, hwt⟩ := depsB_spec hd
      have hDn' : Dn ops (e :: pr) := ⟨hwt, hc', he, hDn⟩
      have hel : listed.getD e false = false := by
        cases hh : listed.getD e false with
        | false => rfl
        | true => exact absurd (hl e hh) hc'
      obtain ⟨o, ho, hgo⟩ := h
      have hown : ∀ (v : Value), ∀ t ∈ o.looksAt ops, (a.put o.dst v).tmps[t]? = a.tmps[t]? := fun v t ht =>
        put_same fun hd => by have := ((tmps_spec hT ho ho hd).1 ht).2; exact this rfl
      have hlagP : ∀ (v : Value), Lags ops listed (e :: pr) (a.put o.dst v) a' := fun v => by
        refine ⟨by rw [put_defers]; exact hlag.defers, by rw [put_size]; exact hlag.size, fun t ht => ?_⟩
        rw [put_same (ht e o List.mem_cons_self hel ho)]
        exact hlag.same t fun k ok hk => ht k ok (List.mem_cons_of_mem _ hk)
      have hlP : ∀ i, listed.getD i false = true → i ∈ e :: pr := fun i hi => List.mem_cons_of_mem _ (hl i hi)
      by_cases hwant : Region.wanted o (yielded ops a.tmps) = true
      · rw [if_pos hwant] at hgo
        by_cases hk0 : kindOp o.op = 0
        · rw [if_pos hk0] at hgo
          obtain ⟨v, hv, hrest⟩ := hgo
          refine iht listed (e :: pr) ls (a.put o.dst v) a' w hs hf hth hord' hDn' hlP (fun k hk hkl => ?_) (hlagP v) hrest
          rcases List.mem_cons.1 hk with rfl | hk
          · refine ⟨o, ho, .inl ⟨by rw [wanted_same (hown v)]; exact hwant, v, .inl ⟨hk0, fun W => ?_⟩, fun d hd hlt => ?_⟩⟩
            · rw [exec_same (kind_no_select (by rw [hk0]; decide)) (hown v)]; exact hv W
            · rw [hd]; exact put_at (by rwa [put_size] at hlt)
          · exact keep_pend hT hDn hp hc' ho v w ls (fun _ h => h) (fun _ _ _ _ _ _ _ _ h => h) k hk hkl
        · rw [if_neg hk0] at hgo
          obtain ⟨hk1, v, hv, hrest⟩ := hgo
          refine iht listed (e :: pr) ((e, v) :: ls) (a.put o.dst v) a' w hs hf hth hord' hDn' hlP (fun k hk hkl => ?_) (hlagP v) hrest
          rcases List.mem_cons.1 hk with rfl | hk
          · refine ⟨o, ho, .inl ⟨by rw [wanted_same (hown v)]; exact hwant, v, .inr ⟨hk1, List.mem_cons_self, ?_⟩, fun d hd hlt => ?_⟩⟩
            · rw [exec_same (kind_no_select (by rw [hk1]; decide)) (hown v)]; exact hv
            · rw [hd]; exact put_at (by rwa [put_size] at hlt)
          · exact keep_pend hT hDn hp hc' ho v w _ (fun _ h => List.mem_cons_of_mem _ h) (fun _ _ _ _ _ _ _ _ h => h) k hk hkl
      · rw [if_neg hwant] at hgo
        have hwf : Region.wanted o (yielded ops a.tmps) = false := by simpa using hwant
        refine iht listed (e :: pr) ls (a.put o.dst undef) a' w hs hf hth hord' hDn' hlP (fun k hk hkl => ?_) (hlagP undef) hgo
        rcases List.mem_cons.1 hk with rfl | hk
        · refine ⟨o, ho, .inr ⟨by rw [wanted_same (hown undef)]; exact hwf, fun d hd hlt => ?_⟩⟩
          rw [hd]; exact put_at (by rwa [put_size] at hlt)
        · exact keep_pend hT hDn hp hc' ho undef w ls (fun _ h => h) (fun _ _ _ _ _ _ _ _ h => h) k hk hkl
    | alt b e t r _ _ =>
      intro listed pr ls a a' w hs hf hh hord hDn hl hp hlag h
      have heach := ST.each h hord
      have hord0 := hord
      simp only [Ord_.whole] at hh
      subst hh
      simp only [ordT, Bool.and_eq_true, Bool.not_true, Bool.false_or] at hord
      have hcov := hord.2
      have hothers : ∀ k, k < ops.size → k ∉ pr → k ∉ (Ord_.alt true e t r).ids → ∃ j, waits ops k j = true ∧ j ∉ pr := fun k hk hkp hke => by
        have h8 := List.all_eq_true.1 hcov k (List.mem_range.2 hk)
        simp only [Bool.or_eq_true, List.any_eq_true, List.contains_iff_mem, Bool.and_eq_true, Bool.not_eq_true'] at h8
        rcases h8 with (h | h) | ⟨j, _, h1, h2⟩
        · exact absurd h hkp
        · exact absurd h hke
        · exact ⟨j, h1, fun hm => by simp [hm] at h2⟩
      obtain ⟨hc0, he0, hwt0⟩ := depsB_spec hord.1.1.1.1
      obtain ⟨⟨o0, ho0, _⟩, _⟩ := id h
      refine ⟨fun hr => ?_, fun i hi => ?_⟩
      · by_cases hpe : ∃ i ∈ pr, listed.getD i false = false
        · obtain ⟨k, _, hk⟩ := hDn.ready hs hpe
          rw [hr] at hk; cases hk
        · have hel : listed.getD e false = false := by
            cases hh : listed.getD e false with
            | false => rfl
            | true => exact absurd (hl e hh) hc0
          have : e ∈ Region.ready .any ops listed := mem_ready.2 ⟨by rw [getD_true_of (by rw [hs]; exact he0)]; exact hel, o0, ho0, fun ed hed hb => by
            by_cases hh : listed.getD ed.on false = true
            · exact hh
            · exact absurd ⟨ed.on, hwt0 _ ((waits_spec ho0).2 ⟨ed, hed, hb, rfl⟩), by simpa using hh⟩ hpe⟩
          rw [hr] at this; cases this
      · obtain ⟨hil, oi, hoi, _⟩ := mem_ready.1 hi
        have hi' := (Array.getElem?_eq_some_iff.1 hoi).1
        rw [getD_true_of (by rw [hs]; exact hi')] at hil
        by_cases hip : i ∈ pr
        · exact pend_step hT hs hp hlag hi hip fun a'' hlag' => ihf (.alt true e t r) _ pr ls a a'' w (by simp [hs]) (by have := left_set hs hi' hil; omega) rfl hord0 hDn (listed_set_mem hl hip) (fun k hk hkl => hp k hk (unlisted_set hkl)) hlag' h
        · have hie : i ∈ (Ord_.alt true e t r).ids := by
            by_cases hie : i ∈ (Ord_.alt true e t r).ids
            · exact hie
            · obtain ⟨j, h1, h2⟩ := hothers i hi' hip hie
              exact absurd (hl j (ready_waits hi h1)) h2
          obtain ⟨u, o, hd, hth, hord', ho, hwant, hgo⟩ := heach i hie
          obtain ⟨hc', he, hwt⟩ := depsB_spec hd
          have hDn' : Dn ops (i :: pr) := ⟨hwt, hc', he, hDn⟩
          have hlk0 := lag_looks hT hlag ho hi
          have hnsel := Region.noSelect_spec hS i o
          unfold wpOp
          simp only [ho]
          rw [wanted_same hlk0, if_pos hwant]
          refine .inl ?_
          unfold Oper.wp
          rw [exec_same (fun cs b => hnsel cs b ho) hlk0]
          have next : ∀ v w', (Stab P ops i a w' ls ∧ ST P ops Q u ls (a.put o.dst v) w') → wpAny P .any ops (onlyNormal Q) fuel (listed.setIfInBounds i true) (a'.put o.dst v) w' := fun v w' ⟨hst, hrest⟩ => by
            refine ihf u _ (i :: pr) ls (a.put o.dst v) (a'.put o.dst v) w' (by simp [hs]) (by have := left_set hs hi' hil; omega) hth hord' hDn' (fun k hk => ?_) (fun k hk hkl => ?_) ?_ hrest
            · by_cases h : i = k
              · subst h; exact List.mem_cons_self
              · rw [getD_set_ne _ h] at hk; exact List.mem_cons_of_mem _ (hl k hk)
            · rcases List.mem_cons.1 hk with rfl | hk
              · rw [getD_set_self (by rw [hs]; exact hi')] at hkl; cases hkl
              · refine keep_pend hT hDn hp hc' ho v w' ls (fun _ h => h) (fun k hk hkl ok u hok _ hm _ => ?_) k hk (unlisted_set hkl)
                by_cases hnw : waits ops i k = false
                · obtain ⟨ok', hok', hrun⟩ := hst.at hm hnw
                  rw [hok] at hok'; cases hok'
                  exact hrun
                · rw [ready_waits hi (by simpa using hnw)] at hkl; cases hkl
            · refine ⟨by rw [put_defers, put_defers]; exact hlag.defers, by rw [put_size, put_size]; exact hlag.size, fun t ht => ?_⟩
              by_cases hdd : o.dst = some t
              · rw [hdd]
                by_cases hlt : t < a.tmps.size
                · rw [put_at (by rw [hlag.size]; exact hlt), put_at hlt]
                · rw [Array.getElem?_eq_none (by rw [put_size, hlag.size]; exact Nat.not_lt.1 hlt), Array.getElem?_eq_none (by rw [put_size]; exact Nat.not_lt.1 hlt)]
              · rw [put_same hdd, put_same hdd]
                refine hlag.same t fun k ok hk hkl hok => ?_
                by_cases hki : k = i
                · subst hki; rw [ho] at hok; cases hok; exact hdd
                · exact ht k ok (List.mem_cons_of_mem _ hk) (by rw [getD_set_ne _ (fun e => hki e.symm)]; exact hkl) hok
          revert hgo
          generalize (execOp a.eval o).run P w = rr
          intro hgo
          cases rr with
          | halt x w' => exact hgo.elim
          | ok n w' =>
            cases n with
            | value v => rw [Oper.upon_value]; exact next v w' hgo
            | skip => rw [Oper.upon_skip]; exact next undef w' hgo
            | enter f args =>
              rw [Oper.upon_enter]
              refine Calls.mono hgo fun e' w'' ⟨v, he', hn⟩ => ?_
              subst he'
              exact next v w'' hn
            | _ => exact hgo.elim
theorem wp_region_st {id : Nat} {Q : Exit → Act → World → Prop} {a : Act} {w : World} (hm : P.follows .mixedOrders = true) (ord : Ord_) (hT : tmpsB ops = true) (hS : Region.noSelect ops = true) (hO : (ord.whole && ordT ops [] ord) = true)
    (h : ST P ops (Q .normal) ord [] a w.drew) : (Code.region id ops true).wp P Q a w := by
  rw [Bool.and_eq_true] at hO
  refine wp_region_any hm ?_
  have key : ∀ fuel listed a w, wpAny P .any ops (onlyNormal (Q .normal)) fuel listed a w → wpAny P .any ops Q fuel listed a w := by
    have hop : ∀ (i : Nat) (K : Act → World → Prop) (a : Act) (w : World), wpOp P ops (onlyNormal (Q .normal)) i K a w → wpOp P ops Q i K a w := fun i K a w h => by
      unfold wpOp at *
      split
      · rename_i hn; simpa [hn] using h
      · rename_i o ho
        simp only [ho] at h
        split
        · rename_i hw
          rw [if_pos hw] at h
          rcases h with h | ⟨h1, a0, w0, h2⟩
          · refine .inl ?_
            unfold Oper.wp at *
            generalize (execOp a.eval o).run P w = r at *
            cases r with
            | ok n w' =>
              cases n <;> simp only [Oper.upon] at h ⊢ <;> first
                | exact h
                | exact Calls.mono h (fun e w'' he => by cases e <;> first | exact he | exact he.elim | (obtain ⟨_, _, hh⟩ := he; exact hh.elim))
            | halt x w' => cases x <;> simp only [Oper.upon, onlyNormal] at h ⊢
          · exact h2.elim
        · rename_i hw
          rw [if_neg hw] at h
          exact h
    intro fuel
    induction fuel with
    | zero => exact fun listed a w h => h
    | succ fuel ih => exact fun listed a w h => ⟨h.1, fun i hi => hop _ _ _ _ (wpOp_mono (fun a w => ih _ a w) (h.2 i hi))⟩
  refine key _ _ _ _ (st_any hT hS ops.size ord _ [] [] a a _ (by simp) ?_ hO.1 hO.2 trivial (fun i hi => ?_) (fun i hi => by cases hi) ⟨rfl, rfl, fun t _ => rfl⟩ h)
  · unfold left_
    exact Nat.le_trans (List.countP_le_length) (by simp)
  · rw [getD_replicate_false] at hi; cases hi
end
end Go.Proofs.YtfommmijojfdbaaGreatDoor
