/- Part 38 of the proof that 'spoondriftlaw19.RulesApplies' holds for every input; it has no condition beyond the statement's own. -/
import Derived.Test.YtfommmijojfdbaaGreatDoorZ35
import Derived.WalkMore
set_option linter.all false
namespace Go.Proofs.YtfommmijojfdbaaGreatDoor
open Go.RowKit Go.Shelf
attribute [local go_sem] Oper.semAt_some
def RdK (n0 : Nat) (A : Option Addr) (c : C) (W : World) : Prop := ∀ W', Keep ex2 n0 W W' → RdG W' A c.gates
theorem RdK.keep {n0 : Nat} {A : Option Addr} {c : C} {W W1 : World} (h : RdK n0 A c W) (hk : Keep ex2 n0 W W1) : RdK n0 A c W1 := fun W' h' => h W' (hk.trans h')
theorem RdK.own {n0 B k : Nat} {A : Option Addr} {c : C} {W : World} (h : Own 3 55 B W (.slice A c.gates.length k) c.gates) (hG : Good c) : RdK n0 A c W := fun W' hk => by
  obtain ⟨A', k', e, _, hr⟩ := (h.keep hk).rd (by have := hG.len; omega) (fun g hg => by have := hG.wires g hg; omega)
  cases e
  exact hr
theorem abide_keep {β : Type} {L n0 : Nat} {W0 : World} (hn : n0 ≤ L) (hw : n0 ≤ W0.heap.size) : Abide L (fun (_ : β) W => Keep ex2 n0 W0 W) := fun _ W W' row hs hg hr =>
  hs.trans (Keep.grown hg (Nat.le_trans hw hs.size) fun r e => ⟨Nat.le_trans hn (hr r e).1, fun cs T fz h => by
    obtain ⟨o, ho, ht⟩ := (hr r e).2
    rw [h] at ho
    cases ho
    rcases ht with ht | ⟨b, hb⟩
    · cases ht
    · injection hb with _ h2
      exact .inr h2⟩)
def MarksL (L : Nat) (W : World) (ds : List Deferred) : Prop := Marks W ds ∧ ∀ d ∈ ds, ∀ D, d.target = .collected D → L ≤ D
theorem MarksL.same {L : Nat} {W W' : World} {ds : List Deferred} (h : MarksL L W ds) (hk : ∀ D : Nat, W.heap[D]? = some (Obj.deferred (some [])) → W'.heap[D]? = some (Obj.deferred (some []))) : MarksL L W' ds :=
  ⟨h.1.keep fun D _ => hk D, h.2⟩
theorem MarksL.below {L : Nat} {W W' : World} {ds : List Deferred} (h : MarksL L W ds) (hb : Below W.heap.size W W') : MarksL L W' ds := MarksL.same h fun _ h => blk2 hb h
theorem MarksL.abide {β : Type} {L : Nat} {W0 : World} {ds : List Deferred} (h : MarksL L W0 ds) : Abide W0.heap.size (fun (_ : β) W => (∀ D : Nat, W0.heap[D]? = some (Obj.deferred (some [])) → W.heap[D]? = some (Obj.deferred (some [])))) := fun _ W W' row hs hg hr D hD =>
  (hg.block D (by have := blk_lt (hs D hD); exact this) fun e => by have := (hr D e.symm).1; have := blk_lt hD; omega).trans (hs D hD)
theorem MarksL.cons {L D : Nat} {W0 W : World} {ds : List Deferred} (h0 : MarksL L W0 ds) (h : MarksL L W ds) (hL : L ≤ W0.heap.size) (hD : W0.heap.size ≤ D) (hm : W.heap[D]? = some (Obj.deferred (some []))) : MarksL L W ({ target := .collected D, args := #[] } :: ds) := by
  refine ⟨⟨⟨D, rfl, hm, fun d hd e => ?_⟩, h.1⟩, fun d hd D' e => ?_⟩
  · obtain ⟨D', e1, h1⟩ := h0.1.mem d hd
    rw [e1] at e
    cases e
    have := blk_lt h1
    omega
  · rcases List.mem_cons.1 hd with rfl | hd
    · cases e; omega
    · exact h.2 d hd D' e
def ShS (w : World) (Bo Bm L : Nat) (cc : C) (Ac : Option Addr) (kc : Nat) (v : Value) (outs : List M) (W : World) : Prop :=
  W.heap[w.heap.size]? = some (.cells #[.int .i64 cc.wires, .int .i64 cc.bits, .slice Ac cc.gates.length kc] 24 (0, 0)) ∧ W.heap[Bo]? = some (.cells #[v] 30 (0, 0)) ∧
  App (EMo 3 L) 27 4 L W v outs ∧ LessMp 44 Bm W ∧ Below w.heap.size w W ∧ L ≤ W.heap.size
theorem ShS.below {w : World} {Bo Bm L : Nat} {cc : C} {Ac : Option Addr} {kc : Nat} {v : Value} {outs : List M} {W W' : World} (h : ShS w Bo Bm L cc Ac kc v outs W) (hb : Below W.heap.size W W') : ShS w Bo Bm L cc Ac kc v outs W' :=
  ⟨blk2 hb h.1, blk2 hb h.2.1, h.2.2.1.below (EMo.stays _ _) hb, h.2.2.2.1.same (hb.block _ h.2.2.2.1.lt), h.2.2.2.2.1.trans (hb.mono h.2.2.2.2.1.size), Nat.le_trans h.2.2.2.2.2 hb.size⟩
theorem ShS.abide {β : Type} {w : World} {Bo Bm L L' : Nat} {cc : C} {Ac : Option Addr} {kc : Nat} {v : Value} {outs : List M} (h1 : w.heap.size < L') (h2 : Bo < L') (h3 : Bm < L') : Abide L' (fun (_ : β) W => ShS w Bo Bm L cc Ac kc v outs W) := fun _ W W' row hs hg hr => by
  have ne : ∀ {b : Nat}, b < L' → some b ≠ row := fun h e => by have := (hr _ e.symm).1; omega
  exact ⟨(hg.block _ (blk_lt hs.1) (ne h1)).trans hs.1, (hg.block _ (blk_lt hs.2.1) (ne h2)).trans hs.2.1, hs.2.2.1.turn (EMo.bears _ _ (by decide)) (by decide) hg (fun r e => (hr r e).2),
    hs.2.2.2.1.same (hg.block _ hs.2.2.2.1.lt (ne h3)), hs.2.2.2.2.1.grown hg hs.2.2.2.2.1.size (fun r e => by have := (hr r e).1; omega), Nat.le_trans hs.2.2.2.2.2 hg.size⟩
theorem abide_size {β : Type} {L n : Nat} : Abide L (fun (_ : β) W => n ≤ W.heap.size) := fun _ _ _ _ hs hg _ => Nat.le_trans hs hg.size
theorem range_find {β : Type} (F : Nat → Option β) (j : Nat) : (List.range (j + 1)).findSome? F = ((List.range j).findSome? F).or (F j) := by
  rw [List.range_succ, List.findSome?_append]
  simp
theorem find_at {β : Type} {F : Nat → Option β} {j n : Nat} {x : β} (hj : j < n) (h : (List.range j).findSome? F = none) (hx : F j = some x) : (List.range n).findSome? F = some x := by
  induction n with
  | zero => omega
  | succ n ih =>
    rw [range_find]
    rcases Nat.lt_or_ge j n with h' | h'
    · rw [ih h']; rfl
    · obtain rfl : j = n := by omega
      rw [h, hx]; rfl
theorem steps_less {c : C} {i : Nat} (hi : i < 44) (hl : lessB i = true) (hG : Good c) {x : M × C} (hx : x ∈ stepsL c i false) : x.2.gates.length < c.gates.length := by
  have h43 : i ≠ 43 := by rintro rfl; revert hl; decide
  obtain ⟨h1, h2, h3, ⟨p, h4⟩, _⟩ := stepsL_good hi (by unfold fitB; simp) hG x hx
  unfold stepR at h4
  rw [h2, if_neg (by omega), h3, Int.toNat_natCast] at h4
  unfold stepN at h4
  split at h4
  · simp only [Prod.mk.injEq] at h4; cases h4.1
  split at h4
  · simp only [Prod.mk.injEq] at h4; cases h4.1
  rename_i hn _
  simp only [Prod.mk.injEq] at h4
  rw [← h4.2.1]
  unfold notThere at hn
  simp only [Bool.or_eq_true, decide_eq_true_eq, not_or, Nat.not_lt] at hn
  unfold lessB at hl
  rw [decide_eq_true_eq] at hl
  have e1 : (fromOn i false x.1.wires).length = (ruleL i).length := by simp [fromOn, fromG]
  have e2 : (toOn i false x.1.wires).length = (ruleR i).length := by simp [toOn, toG]
  simp only [List.length_append, List.length_take, List.length_drop]
  omega
theorem ownNe {α : Type} {E : World → α → List Value → Prop} {T sz B : Nat} {W : World} {v : Value} {xs : List α} (h : App E T sz B W v xs) {q : Nat} {cs : Array Value} {T' : TypeId} {fz : Nat × Nat} (hq : W.heap[q]? = some (.cells cs T' fz)) (hT : T' ≠ T) : v.ownBlock ≠ some q := fun e => by
  obtain ⟨⟨row, hc⟩, _⟩ := app_cellsAt h e
  rw [hq] at hc
  injection hc with hc
  injection hc with _ h
  exact hT h
theorem deferred_set {W : World} {b j D : Nat} {cs : Array Value} {T : TypeId} {fz : Nat × Nat} {u : Value} {q : Option (List Deferred)} (hb : W.heap[b]? = some (.cells cs T fz)) (hD : W.heap[D]? = some (Obj.deferred q)) : (W.setCell ⟨b, j, none⟩ u).heap[D]? = some (Obj.deferred q) := by
  rw [heap_setCell_other _ _ _ _ (fun e => ?_)]
  · exact hD
  · dsimp only at e
    subst e
    rw [hb] at hD
    cases hD
theorem ShS.put {w : World} {Bo Bm L nb L' : Nat} {cc d : C} {Ac A9 : Option Addr} {kc d9 : Nat} {v v1 x0 x1 : Value} {outs : List M} {m : M} {Y w1 : World} (hS : ShS w Bo Bm L cc Ac kc v outs Y) (g1 : App (EMo 3 L) 27 4 L w1 v1 (outs ++ [m])) (g2 : Y.grownBy w1 v.ownBlock)
    (hx0 : x0 = .int .i64 d.wires) (hx1 : x1 = .int .i64 d.bits) (h1 : w.heap.size < Bm) (h2 : Bm < Bo) (h3 : Bo < L) (h4 : L ≤ L') :
    ShS w Bo Bm L d A9 d9 v1 (outs ++ [m]) ((((w1.setCell ⟨Bo, 0, none⟩ v1).setCell ⟨w.heap.size, 0, none⟩ x0).setCell ⟨w.heap.size, 1, none⟩ x1).setCell ⟨w.heap.size, 2, none⟩ (.slice A9 d.gates.length d9)) ∧
    Keep (ex1 nb) w.heap.size Y ((((w1.setCell ⟨Bo, 0, none⟩ v1).setCell ⟨w.heap.size, 0, none⟩ x0).setCell ⟨w.heap.size, 1, none⟩ x1).setCell ⟨w.heap.size, 2, none⟩ (.slice A9 d.gates.length d9)) ∧
    KeepsFrom L' Y ((((w1.setCell ⟨Bo, 0, none⟩ v1).setCell ⟨w.heap.size, 0, none⟩ x0).setCell ⟨w.heap.size, 1, none⟩ x1).setCell ⟨w.heap.size, 2, none⟩ (.slice A9 d.gates.length d9)) ∧
    ∀ (D : Nat) q, Y.heap[D]? = some (Obj.deferred q) → ((((w1.setCell ⟨Bo, 0, none⟩ v1).setCell ⟨w.heap.size, 0, none⟩ x0).setCell ⟨w.heap.size, 1, none⟩ x1).setCell ⟨w.heap.size, 2, none⟩ (.slice A9 d.gates.length d9)).heap[D]? = some (Obj.deferred q) := by
  subst hx0 hx1
  obtain ⟨s1, s2, s3, s4, s5, s6⟩ := hS
  have o1 : w1.heap[w.heap.size]? = _ := (g2.block _ (blk_lt s1) (fun e => ownNe s3 s1 (by decide) e.symm)).trans s1
  have o2 : w1.heap[Bo]? = _ := (g2.block _ (blk_lt s2) (fun e => ownNe s3 s2 (by decide) e.symm)).trans s2
  have o3 : w1.heap[Bm]? = Y.heap[Bm]? := g2.block _ s4.lt (fun e => by have := (app_cellsAt s3 e.symm).2; omega)
  have t1 : (w1.setCell ⟨Bo, 0, none⟩ v1).heap[w.heap.size]? = _ := (heap_setCell_other _ _ _ _ (by simp; omega)).trans o1
  have u1 : ((w1.setCell ⟨Bo, 0, none⟩ v1).setCell ⟨w.heap.size, 0, none⟩ (.int .i64 d.wires)).heap[w.heap.size]? = some (.cells #[.int .i64 d.wires, .int .i64 cc.bits, .slice Ac cc.gates.length kc] 24 (0, 0)) := heap_setCell_same _ _ 0 _ _ _ t1
  have u2 : (((w1.setCell ⟨Bo, 0, none⟩ v1).setCell ⟨w.heap.size, 0, none⟩ (.int .i64 d.wires)).setCell ⟨w.heap.size, 1, none⟩ (.int .i64 d.bits)).heap[w.heap.size]? = some (.cells #[.int .i64 d.wires, .int .i64 d.bits, .slice Ac cc.gates.length kc] 24 (0, 0)) := heap_setCell_same _ _ 1 _ _ _ u1
  have hK : Keep (ex1 nb) w.heap.size Y w1 := Keep.grown g2 s5.size fun r e => by
    obtain ⟨⟨cs, hc⟩, hB⟩ := app_cellsAt s3 e
    refine ⟨by omega, fun cs' T' fz' h => ?_⟩
    rw [hc] at h
    injection h with h
    injection h with _ h
    exact .inl (.inl h.symm)
  have lc : ex1 nb w.heap.size 24 := .inl (.inr (.inr rfl))
  have hKf := (((hK.trans (Keep.set (j := 0) v1 o2 (.inl (.inr (.inl rfl))) (by omega))).trans (Keep.set (j := 0) (.int .i64 d.wires) t1 lc (Nat.le_refl _))).trans (Keep.set (j := 1) (.int .i64 d.bits) u1 lc (Nat.le_refl _))).trans (Keep.set (j := 2) (.slice A9 d.gates.length d9) u2 lc (Nat.le_refl _))
  refine ⟨⟨set3 t1, ?_, ?_, s4.same ?_, s5.trans hKf.1, Nat.le_trans s6 hKf.1.size⟩, hKf, ?_, ?_⟩
  · rw [heap_setCell_other _ _ _ _ (by simp; omega), heap_setCell_other _ _ _ _ (by simp; omega), heap_setCell_other _ _ _ _ (by simp; omega)]
    exact Boxed.set _ o2
  · have a0 := g1.setT (a := ⟨Bo, 0, none⟩) (u := v1) o2 (by decide) (EMo.setT o2 (by decide))
    have a1 := a0.setT (a := ⟨w.heap.size, 0, none⟩) (u := .int .i64 d.wires) t1 (by decide) (EMo.setT t1 (by decide))
    have a2 := a1.setT (a := ⟨w.heap.size, 1, none⟩) (u := .int .i64 d.bits) u1 (by decide) (EMo.setT u1 (by decide))
    exact a2.setT (a := ⟨w.heap.size, 2, none⟩) u2 (by decide) (EMo.setT u2 (by decide))
  · rw [heap_setCell_other _ _ _ _ (by simp; omega), heap_setCell_other _ _ _ _ (by simp; omega), heap_setCell_other _ _ _ _ (by simp; omega), heap_setCell_other _ _ _ _ (by simp; omega), o3]
  · exact (keepsFrom_of g2 (fun j e => by obtain ⟨⟨cs, hc⟩, _⟩ := app_cellsAt s3 e; exact ⟨cs, _, hc⟩)).trans (((KeepsOthers.setCell _ _ _).from _).trans (((KeepsOthers.setCell _ _ _).from _).trans (((KeepsOthers.setCell _ _ _).from _).trans ((KeepsOthers.setCell _ _ _).from _))))
  · intro D q hD
    have d0 : w1.heap[D]? = some (Obj.deferred q) := (g2.block _ (blk_lt hD) (fun e => by
      obtain ⟨⟨cs, hc⟩, _⟩ := app_cellsAt s3 e.symm
      rw [hD] at hc
      cases hc)).trans hD
    exact deferred_set u2 (deferred_set u1 (deferred_set t1 (deferred_set o2 d0)))
def cLen (b : Nat) (W : World) : Nat := match W.heap[b]? with
  | some (.cells row _ _) => match row.getD 2 undef with
    | .slice _ n _ => n
    | _ => 0
  | _ => 0
theorem cLen_of {b n k : Nat} {W : World} {x y : Value} {A : Option Addr} {T : TypeId} {fz : Nat × Nat} (h : W.heap[b]? = some (.cells #[x, y, .slice A n k] T fz)) : cLen b W = n := by
  unfold cLen
  rw [h]
  rfl
set_option maxRecDepth 1000000 in
set_option maxHeartbeats 8000000 in
theorem Shorten_any (A : Option Addr) (k : Nat) (c : C) (w : World) (HT : Hid (Laid w)) (h : RdG w A c.gates) (hk : c.gates.length ≤ k) :
    Calls Tryz.prog 33 #[.agg #[.int .i64 c.wires, .int .i64 c.bits, .slice A c.gates.length k]] w fun e w' => ∃ v, e = .returned (.tuple #[v, .int .i64 (ShortenR c).1]) ∧ App (EMo 3 w.heap.size) 27 4 w.heap.size w' v (ShortenR c).2 ∧ Below w.heap.size w w' := by
  have HH := Lib.hid h
  clear h
  obtain ⟨W1, hW1⟩ : ∃ W1, w.alloc (.cells #[.int .i64 c.wires, .int .i64 c.bits, .slice A c.gates.length k] 24) = W1 := ⟨_, rfl⟩
  have hb1 : Below w.heap.size w W1 := by rw [← hW1]; (repeat (first|exact bR _ _|assumption|apply bN|apply bA|apply bD))
  have p0 : W1.heap[w.heap.size]? = some (.cells #[.int .i64 c.wires, .int .i64 c.bits, .slice A c.gates.length k] 24 (0, 0)) := by rw [← hW1]; exact blk_alloc _ _ _ rfl
  have hz1 : w.heap.size + 1 ≤ W1.heap.size := by rw [← hW1]; simp
  have hpl := plain_any A k c W1 (HH.out.bG hb1)
  obtain ⟨a0, a1, a2, af⟩ := cells3 p0
  have HP := Lib.hid (And.intro p0 hb1)
  clear p0 hb1
  refine (callsIn_wide (n := 0)).1 (callsIn_of_wp_marks Tryz.func33 rfl trivial ?_ rfl)
  simp only [Tryz.ntmps33, List.size_toArray, List.length_cons, List.length_nil, Nat.reduceAdd, Nat.reduceSub, Array.replicate_succ, Array.replicate_zero, List.push_toArray, List.append_toArray, List.nil_append, List.cons_append]
  gi_wp2_with fail
  refine (wpIn_wide (n := 0)).2 (wp_scope_straight ((wpIn_wide (n := 0)).1 ?_))
  gi_wp2_with fail
  try rw [hW1]
  clear hW1
  refine ⟨trivial, rfl, CallsIn.mono (callsIn_wide.2 hpl) ?_⟩
  clear hpl a0 a1 a2 af
  rintro e w2 ⟨rfl, hb2⟩
  have hb02 := HP.out.2.trans (hb2.mono HP.out.2.size)
  have p2 := blk2 hb2 HP.out.1
  have hz2 := hb2.size
  have HP2 := Lib.hid (And.intro p2 hb02)
  clear p2 hb02 hb2
  obtain ⟨q, hq⟩ : ∃ q, plainE c = q := ⟨_, rfl⟩
  rw [hq]
  by_cases he : q = 0
  case neg =>
    have hne : (q != 0) = true := by simpa using he
    have HF := Lib.hid (show ShortenR c = (q, []) by unfold ShortenR; rw [hq, if_neg he])
    clear hq he
    gi_wp2
    exact ⟨_, results_list (rs := [.tmp 2, .tmp 3]) rfl (by simp) (.tmp (.tmp .nil)), .slice none 0 0, by rw [HF.out]; rfl, by rw [HF.out]; exact App.nil _ _ _ _ _, HP2.out.2⟩
  subst he
  have HG := Lib.hid (plainE_good.1 hq)
  have HF := Lib.hid (show ShortenR c = (0, shortenL (c.gates.length + 1) c) by unfold ShortenR; rw [hq, if_pos rfl])
  have HLA := Lib.hid (HT.out.below HP2.out.2)
  clear hq
  gi_wp2_with fail
  refine ⟨trivial, rfl, CallsIn.mono (callsIn_wide.2 (shorter_any w2 HLA)) ?_⟩
  rintro e w3 ⟨rfl, hl3, hb3⟩
  have hz3 := hb3.size
  have HP3 := Lib.hid (And.intro (blk2 hb3 HP2.out.1) (And.intro hl3 (HP2.out.2.trans (hb3.mono HP2.out.2.size))))
  clear hl3 hb3
  gi_wp2_with fail
  obtain ⟨W4, hW4⟩ : ∃ W4, w3.alloc (.cells #[.slice none 0 0] 30) = W4 := ⟨_, rfl⟩
  try rw [hW4]
  have hb4 : Below w3.heap.size w3 W4 := by rw [← hW4]; (repeat (first|exact bR _ _|assumption|apply bN|apply bA|apply bD))
  have po : W4.heap[w3.heap.size]? = some (.cells #[.slice none 0 0] 30 (0, 0)) := by rw [← hW4]; exact blk_alloc _ _ _ rfl
  have hz4 : W4.heap.size = w3.heap.size + 1 := by rw [← hW4]; simp
  clear hW4
  have hK4 : Keep ex2 w.heap.size w W4 := ⟨HP3.out.2.2.trans (hb4.mono (by omega)), fun b row T fz h he => by
    exact (((HP3.out.2.2.trans (hb4.mono (by omega))).block b (blk_lt h)).trans h)⟩
  have HS := Lib.hid (show MarksL (w3.heap.size + 1) W4 [] ∧ ShS w w3.heap.size w2.heap.size (w3.heap.size + 1) c A k (.slice none 0 0) [] W4 ∧ RdK w.heap.size A c W4 from
    ⟨⟨trivial, fun d hd => by cases hd⟩, ⟨blk2 hb4 HP3.out.1, po, App.nil _ _ _ _ _, HP3.out.2.1.same (hb4.block _ HP3.out.2.1.lt), HP3.out.2.2.trans (hb4.mono (by omega)), by omega⟩, fun W' hW' => HH.out.bG (hK4.1.trans hW'.1)⟩)
  clear hb4 po hK4
  refine wpIn_label ?_
  gi_wp2_with fail
  refine wpIn_loop (fun a' W => ∃ (ds : List Deferred) (cc : C) (Ac : Option Addr) (kc : Nat) (v : Value) (outs : List M) (f : Nat), ∃ u7 u8 u9 u16 u17 u18 u19 u20 u21 u22 u23 u24 u25 u26 u27 u28 u29 u30 u31 u32 u33 u34 u35 : Value, a' = { tmps := #[.agg #[.int .i64 c.wires, .int .i64 c.bits, .slice A c.gates.length k], .pointer (some ⟨w.heap.size, 0, none⟩), .slice none 0 0, .int .i64 0, .int .i64 0, .map (some w2.heap.size), .pointer (some ⟨w3.heap.size, 0, none⟩), u7, u8, u9, .agg #[.int .i64 c.wires, .int .i64 c.bits, .slice A c.gates.length k], .int .i64 0, .int .i64 0, .bool false, undef, .map (some w2.heap.size), u16, u17, u18, u19, u20, u21, u22, u23, u24, u25, u26, u27, u28, u29, u30, u31, u32, u33, u34, u35], defers := ds } ∧ Hid (MarksL (w3.heap.size + 1) W ds ∧ ShS w w3.heap.size w2.heap.size (w3.heap.size + 1) cc Ac kc v outs W ∧ RdK w.heap.size Ac cc W) ∧ Hid (Good cc ∧ cc.gates.length ≤ kc ∧ cc.gates.length < f ∧ shortenL (c.gates.length + 1) c = outs ++ shortenL f cc ∧ outs.length + f ≤ c.gates.length + 1)) (fun _ W => cLen w.heap.size W) ?start ?round
  case start => exact ⟨[], c, A, k, .slice none 0 0, [], c.gates.length + 1, _, _, _, _, _, _, _, _, _, _, _, _, _, _, _, _, _, _, _, _, _, _, _, rfl, HS, Lib.hid ⟨HG.out, hk, by omega, rfl, by simp⟩⟩
  case round =>
    rintro a' W ⟨ds, cc, Ac, kc, v, outs, f, u7, u8, u9, u16, u17, u18, u19, u20, u21, u22, u23, u24, u25, u26, u27, u28, u29, u30, u31, u32, u33, u34, u35, rfl, HI, HP⟩
    clear HS
    obtain ⟨A8, c8, rfl, _⟩ := HI.out.2.1.2.2.1.form
    have HS := Lib.hid (show MarksL (w3.heap.size + 1) W ds ∧ ShS w w3.heap.size w2.heap.size (w3.heap.size + 1) cc Ac kc (.slice A8 outs.length c8) outs W ∧ RdK w.heap.size Ac cc W ∧ (List.range 0).findSome? (fun i => if lessB i = true then (stepsL cc i false).head? else none) = none from ⟨HI.out.1, HI.out.2.1, HI.out.2.2, rfl⟩)
    gi_wp2_with fail
    refine wpIn_loop (fun a' W => ∃ (ds : List Deferred) (j : Nat), ∃ u7 u8 u9 u17 u18 u19 u20 u21 u22 u23 u24 u25 u26 u27 u28 u29 u30 u31 u32 u33 u34 u35 : Value, j ≤ 44 ∧ a' = { tmps := #[.agg #[.int .i64 c.wires, .int .i64 c.bits, .slice A c.gates.length k], .pointer (some ⟨w.heap.size, 0, none⟩), .slice none 0 0, .int .i64 0, .int .i64 0, .map (some w2.heap.size), .pointer (some ⟨w3.heap.size, 0, none⟩), u7, u8, u9, .agg #[.int .i64 c.wires, .int .i64 c.bits, .slice A c.gates.length k], .int .i64 0, .int .i64 0, .bool false, undef, .map (some w2.heap.size), .int .i64 j, u17, u18, u19, u20, u21, u22, u23, u24, u25, u26, u27, u28, u29, u30, u31, u32, u33, u34, u35], defers := ds } ∧ Hid (MarksL (w3.heap.size + 1) W ds ∧ ShS w w3.heap.size w2.heap.size (w3.heap.size + 1) cc Ac kc (.slice A8 outs.length c8) outs W ∧ RdK w.heap.size Ac cc W ∧ (List.range j).findSome? (fun i => if lessB i = true then (stepsL cc i false).head? else none) = none)) (fun a' _ => 44 - (intOf (a'.tmps.getD 16 undef)).toNat) ?start ?round
    case start => exact ⟨ds, 0, _, _, _, _, _, _, _, _, _, _, _, _, _, _, _, _, _, _, _, _, _, _, by omega, rfl, HS⟩
    case round =>
      clear HS
      have HLW := Lib.hid (cLen_of HI.out.2.1.1)
      clear HI
      rename_i W0
      rename_i _ _
      rintro a' W ⟨ds, j, u7, u8, u9, u17, u18, u19, u20, u21, u22, u23, u24, u25, u26, u27, u28, u29, u30, u31, u32, u33, u34, u35, hj, rfl, HI⟩
      by_cases hlt : j < 44
      · have hlti : (j : Int) < 44 := by omega
        have hlk := HI.out.2.1.2.2.2.1.look hlt
        obtain ⟨f0, f1, f2, ff⟩ := cells3 HI.out.2.1.1
        obtain ⟨lj, hlj⟩ : ∃ q, lessB j = q := ⟨_, rfl⟩
        rw [hlj] at hlk
        have HLJ := Lib.hid hlj
        clear hlj
        cases lj
        · gi_wp2_with fail
          refine ⟨⟨ds, j + 1, _, _, _, _, _, _, _, _, _, _, _, _, _, _, _, _, _, _, _, _, _, _, by omega, rfl, Lib.hid ⟨HI.out.1, HI.out.2.1, HI.out.2.2.1, by rw [range_find, HI.out.2.2.2, HLJ.out]; rfl⟩⟩, ?_⟩
          simp [intOf]
          omega
        · gi_wp2_with fail
          refine ⟨trivial, rfl, CallsIn.mono (callsIn_wide.2 (steps_any Ac kc cc j false W)) ?_⟩
          rintro e w5 ⟨rfl, hw5⟩
          have hb5 : Below W.heap.size W w5 := by rw [hw5]; (repeat (first|exact bR _ _|assumption|apply bN|apply bA|apply bD))
          have hz5 : w5.heap.size = W.heap.size + 3 := by rw [hw5]; simp
          have s0 : w5.heap[W.heap.size]? = some (.cells #[.int .i64 cc.wires, .int .i64 cc.bits, .slice Ac cc.gates.length kc] 93 (0, 0)) := by rw [hw5]; exact alloc_old (alloc_old (blk_alloc _ _ _ rfl))
          have s1 : w5.heap[W.heap.size + 1]? = some (.cells #[.int .i64 j] 3 (0, 0)) := by rw [hw5]; exact alloc_old (blk_alloc _ _ _ (by simp))
          have s2 : w5.heap[W.heap.size + 2]? = some (.cells #[.bool false] 4 (0, 0)) := by rw [hw5]; exact blk_alloc _ _ _ (by simp)
          clear hw5 f0 f1 f2 ff hlk
          have hsW := HI.out.2.1.2.2.2.2.2
          have hLw : w.heap.size < W.heap.size := by omega
          have hk5 : Keep ex2 w.heap.size W w5 := Keep.of_below hb5 (by omega)
          have hit := steps1_iter w.heap.size W.heap.size cc Ac kc j false w5 hlt (by unfold fitB; simp) HP.out.1 HP.out.2.1 (by omega) (by omega) s0 s1 s2 (fun W' hW' => ⟨HT.out.below (HI.out.2.1.2.2.2.2.1.trans (hk5.trans hW').1), HI.out.2.2.1 _ (hk5.trans hW')⟩)
          have HM5 := Lib.hid (And.intro (HI.out.1.below hb5) (And.intro (HI.out.2.1.below hb5) (HI.out.2.2.1.keep hk5)))
          have hBo : w3.heap.size < w5.heap.size := by omega
          have hBm : w2.heap.size < w3.heap.size := HP3.out.2.1.lt
          have hL5 : w3.heap.size + 1 ≤ w5.heap.size := by omega
          clear hb5 s0 s1 s2 hk5
          gi_wp2_with fail
          refine rf_law (gf := 114) (lb := #[.pointer (some ⟨W.heap.size + 1, 0, none⟩), .pointer (some ⟨W.heap.size + 2, 0, none⟩), .pointer (some ⟨W.heap.size, 0, none⟩)]) rfl (enters_of Tryz.func114 (by kernel_rfl) rfl) hit (fun h k => h.trans k)
            (fun W l o o' hl ho hL => Keep.put o' hl ho (by omega)) (fun _ _ _ ⟨_, _, h, _⟩ => by rw [h]; rfl)
            (fun pre Y => pre = [] ∧ (∀ D : Nat, w5.heap[D]? = some (Obj.deferred (some [])) → Y.heap[D]? = some (Obj.deferred (some []))) ∧ ShS w w3.heap.size w2.heap.size (w3.heap.size + 1) cc Ac kc (.slice A8 outs.length c8) outs Y ∧ Keep ex2 w.heap.size w5 Y ∧ w5.heap.size ≤ Y.heap.size)
            (fun ce pre Y => ce = .exit 1 ∧ ∃ x A9 d9 v', pre = [x] ∧ (∀ D : Nat, w5.heap[D]? = some (Obj.deferred (some [])) → Y.heap[D]? = some (Obj.deferred (some []))) ∧ ShS w w3.heap.size w2.heap.size (w3.heap.size + 1) x.2 A9 d9 v' (outs ++ [x.1]) Y ∧ Own 3 55 w5.heap.size Y (.slice A9 x.2.gates.length d9) x.2.gates) ?hI ?hIx ?h0
            (fun x a' Y => ∃ b b' A' d' A9 d9, a' = { tmps := #[.agg #[.int .i64 c.wires, .int .i64 c.bits, .slice A c.gates.length k], .pointer (some ⟨w.heap.size, 0, none⟩), .slice none 0 0, .int .i64 0, .int .i64 0, .map (some w2.heap.size), .pointer (some ⟨w3.heap.size, 0, none⟩), .int .i64 j, .pointer (some ⟨b, 0, none⟩), .pointer (some ⟨b', 0, none⟩), .agg #[.int .i64 c.wires, .int .i64 c.bits, .slice A c.gates.length k], .int .i64 0, .int .i64 0, .bool false, undef, .map (some w2.heap.size), .int .i64 j, .bool true, .int .i64 j, .map (some w2.heap.size), .int .i64 j, .bool true, .bool false, .agg #[.int .i64 cc.wires, .int .i64 cc.bits, .slice Ac cc.gates.length kc], .agg #[.int .i64 cc.wires, .int .i64 cc.bits, .slice Ac cc.gates.length kc], .int .i64 j, .func (.func 114) #[] #[.pointer (some ⟨W.heap.size + 1, 0, none⟩), .pointer (some ⟨W.heap.size + 2, 0, none⟩), .pointer (some ⟨W.heap.size, 0, none⟩)], .agg #[.int .i64 x.1.rule, .int .i64 x.1.at_, .bool x.1.back, .slice A' x.1.wires.length d'], .agg #[.int .i64 x.2.wires, .int .i64 x.2.bits, .slice A9 x.2.gates.length d9], u29, u30, u31, u32, u33, u34, u35], defers := [] } ∧ w5.heap.size ≤ b ∧ Y.heap[b]? = some (.cells #[.int .i64 x.1.rule, .int .i64 x.1.at_, .bool x.1.back, .slice A' x.1.wires.length d'] 27 (0, 0)) ∧ App EI 3 1 w5.heap.size Y (.slice A' x.1.wires.length d') x.1.wires ∧ w5.heap.size ≤ b' ∧ Y.heap[b']? = some (.cells #[.int .i64 x.2.wires, .int .i64 x.2.bits, .slice A9 x.2.gates.length d9] 24 (0, 0)) ∧ Own 3 55 w5.heap.size Y (.slice A9 x.2.gates.length d9) x.2.gates ∧ (Value.slice A8 outs.length c8).ownBlock ≠ some b) ?hAx ?assign ?body ?done ?stop
          case hI => exact (abide_pure _).and ((HM5.out.1.abide).and ((ShS.abide (by omega) (by omega) (by omega)).and ((abide_keep (by omega) (by omega)).and abide_size)))
          case hIx =>
            rintro ce s Y Y' row ⟨h1, x, A9, d9, v', h2, h3, h4, h5⟩ hg hr
            refine ⟨h1, x, A9, d9, v', h2, HM5.out.1.abide (β := Unit) () Y Y' row h3 hg hr, ShS.abide (β := Unit) (by omega) (by omega) (by omega) () Y Y' row h4 hg hr, ?_⟩
            obtain ⟨ps, e1, e2, e3⟩ := h5
            exact ⟨ps, e1, e2, e3.turn (EGv.bears _ _ (by decide)) (by decide) hg (fun r e => (hr r e).2)⟩
          case h0 => exact ⟨rfl, fun _ h => h, HM5.out.2.1, Keep.refl _, Nat.le_refl _⟩
          case hAx =>
            rintro a' s Y Y' row ⟨b, b', A', d', A9, d9, h1, h2, h3, h4, h5, h6, h7, h8⟩ hg hr
            have ne : ∀ {q : Nat} {cs : Array Value} {T : TypeId}, Y.heap[q]? = some (.cells cs T (0, 0)) → T ≠ 4 → some q ≠ row := fun {q cs T} hq hT e => by
              obtain ⟨o, ho, ht⟩ := (hr q e.symm).2
              rw [hq] at ho
              cases ho
              rcases ht with ht | ⟨z, hz⟩
              · cases ht
              · injection hz with _ h2'; exact hT h2'
            obtain ⟨ps, e1, e2, e3⟩ := h7
            exact ⟨b, b', A', d', A9, d9, h1, h2, (hg.block b (blk_lt h3) (ne h3 (by decide))).trans h3, h4.turn EI.bears (by decide) hg (fun r e => (hr r e).2), h5, (hg.block b' (blk_lt h6) (ne h6 (by decide))).trans h6, ⟨ps, e1, e2, e3.turn (EGv.bears _ _ (by decide)) (by decide) hg (fun r e => (hr r e).2)⟩, h8⟩
          case assign =>
            rintro l0 pre x args Y K ⟨h1, h2, h3, h4, h5⟩ ⟨v1, v2, rfl, hx1, hx2⟩ hK
            obtain ⟨A', d', rfl, _⟩ := hx1.form
            obtain ⟨A9, d9, rfl, _⟩ := hx2.form'
            have HIY := Lib.hid (And.intro h1 (And.intro h2 (And.intro h3 (And.intro h4 h5))))
            have HX := Lib.hid (And.intro hx1 hx2)
            have HK := Lib.hid hK
            clear h1 h2 h3 h4 h5 hx1 hx2 hK
            gi_wp2
            obtain ⟨h1, h2, h3, h4, h5⟩ := HIY.out
            have hb : Below Y.heap.size Y ((Y.alloc (.cells #[.int .i64 x.1.rule, .int .i64 x.1.at_, .bool x.1.back, .slice A' x.1.wires.length d'] 27)).alloc (.cells #[.int .i64 x.2.wires, .int .i64 x.2.bits, .slice A9 x.2.gates.length d9] 24)) := by (repeat (first|exact bR _ _|assumption|apply bN|apply bA|apply bD))
            exact HK.out _ _ (keepsFrom_of (grown_of_below hb none) (fun r e => by cases e)) (Keep.of_below hb (by omega)) ⟨h1, fun D h => blk2 hb (h2 D h), h3.below hb, h4.trans (Keep.of_below hb (by omega)), Nat.le_trans h5 hb.size⟩
              ⟨Y.heap.size, Y.heap.size + 1, A', d', A9, d9, rfl, h5, alloc_old (blk_alloc _ _ _ rfl), HX.out.1.below EI.stays hb, by omega, blk_alloc _ _ _ (by simp), HX.out.2.below hb, h3.2.2.1.fresh⟩
          case body =>
            rintro l0 pre x a' Y ⟨rfl, h2, h3, h4, h5⟩ ⟨b, b', A', d', A9, d9, rfl, hbw, hbc, hx1, hbw', hbc', hx2, hne⟩ hpre
            have hG9 := (stepsL_good hlt (by unfold fitB; simp) HP.out.1 x (hpre.mem (by simp))).2.2.2.2.2
            have hpl : outs.length + 1 ≤ 1000000 := by have := HP.out.2.2.2.2; have := HG.out.len; have := HP.out.2.2.1; omega
            have hc9 := Boxed.cell h3.2.1
            obtain ⟨k0, k1, k2, k3, kf⟩ := cells4 hbc
            obtain ⟨y0, y1, y2, yf⟩ := cells3 hbc'
            obtain ⟨z0, z1, z2, zf⟩ := cells3 h3.1
            have hbl := blk_lt hbc
            have hbl' := blk_lt hbc'
            have hnl := blk_lt h3.2.1
            have hcl := blk_lt h3.1
            have hold := olds Y
            have hn1 : (b = w3.heap.size) = False := by simp; omega
            have hn2 : (w3.heap.size = b) = False := by simp; omega
            have hn3 : (b' = w3.heap.size) = False := by simp; omega
            have hn4 : (w3.heap.size = b') = False := by simp; omega
            have hn5 : (w.heap.size = w3.heap.size) = False := by simp; omega
            have hn6 : (w3.heap.size = w.heap.size) = False := by simp; omega
            have hn7 : (b' = w.heap.size) = False := by simp; omega
            have hn8 : (w.heap.size = b') = False := by simp; omega
            have HIY := Lib.hid (And.intro h2 (And.intro h3 (And.intro h4 (And.intro h5 (And.intro hbc (And.intro hx1 (And.intro hbc' hx2)))))))
            clear h2 h3 h4 h5 hbc hx1 hbc' hx2
            dsimp only
            gi_wp2_with (gi_at_builtin; refine wpIn_app (E := EMo 3 (w3.heap.size + 1)) (W := Y) 27 4 (w3.heap.size + 1) rfl _ _ 30 (.agg #[.int .i64 0, .int .i64 0, .bool false, .slice none 0 0]) 48 rfl Tryz.underlying30 (by kernel_rfl) rfl (by decide) (by decide) (.slice A8 outs.length c8) outs x.1 [.int .i64 x.1.rule, .int .i64 x.1.at_, .bool x.1.back, .slice A' x.1.wires.length d'] rfl (by show Value.slice (some ⟨Y.heap.size, 0, none⟩) 1 1 = _; simp) rfl (by simp [Value.oneCell']) ⟨_, rfl, HIY.out.2.2.2.2.2.1.imp (by omega) (fun _ _ h => h)⟩ HIY.out.2.1.2.2.1 (by omega) (by omega) (fun w1 n cs hown hg x1 cs1 ⟨v, e, hv⟩ => ⟨v, e, hv.other hown hg (by decide)⟩) ?_; intro v1 w1 ho hg; obtain ⟨A7, c7, hv7, hc7⟩ := ho.form; rw [List.length_append, List.length_singleton] at hv7; subst hv7; have hN9 := (hg.block w3.heap.size (by omega) (fun e => ownNe HIY.out.2.1.2.2.1 HIY.out.2.1.2.1 (by decide) e.symm)).trans HIY.out.2.1.2.1; have hN0 := (hg.block w.heap.size (by omega) (fun e => ownNe HIY.out.2.1.2.2.1 HIY.out.2.1.1 (by decide) e.symm)).trans HIY.out.2.1.1; have hNb := (hg.block b' (by omega) (fun e => ownNe HIY.out.2.1.2.2.1 HIY.out.2.2.2.2.2.2.1 (by decide) e.symm)).trans HIY.out.2.2.2.2.2.2.1; have e9 := Boxed.cell hN9; have e10 := Boxed.frozen hN9; clear z0 z1 z2 zf y0 y1 y2 yf; obtain ⟨z0, z1, z2, zf⟩ := cells3 hN0; obtain ⟨y0, y1, y2, yf⟩ := cells3 hNb; have HG7 := Lib.hid (And.intro ho (And.intro hg (And.intro hN9 hN0))); clear ho hg hN9 hN0 hNb)
            obtain ⟨g1, g2, g3, g4⟩ := HG7.out
            obtain ⟨i2, i3, i4, i5, i6, i7, i8, i9⟩ := HIY.out
            obtain ⟨r1, r2, r3, r4⟩ := ShS.put (nb := W.heap.size) (L' := w5.heap.size) (x0 := .int .i64 x.2.wires) (x1 := .int .i64 x.2.bits) (d := x.2) (A9 := A9) (d9 := d9) i3 g1 g2 rfl rfl (by omega) (by omega) (by omega) (by omega)
            exact ⟨r3, r2, rfl, x, A9, d9, _, rfl, fun D hD => r4 D _ (i2 D hD), r1, i9.keep r2.two⟩
          case done =>
            rintro D Y hD ⟨h1, h2, h3, h4, h5⟩ hm
            have HE := Lib.hid (And.intro h1 (And.intro (MarksL.cons HM5.out.1 (HM5.out.1.same h2) hL5 hD hm) (And.intro h3 (HM5.out.2.2.keep h4))))
            clear h1 h2 h3 h4 h5 hm
            gi_wp2_with fail
            refine ⟨⟨{ target := .collected D, args := #[] } :: ds, j + 1, _, _, _, _, _, _, _, _, _, _, _, _, _, _, _, _, _, _, _, _, _, _, by omega, rfl, Lib.hid ⟨HE.out.2.1, HE.out.2.2.1, HE.out.2.2.2, by rw [range_find, HI.out.2.2.2, HLJ.out, HE.out.1]; rfl⟩⟩, ?_⟩
            simp [intOf]
            omega
          case stop =>
            rintro D ce pre Y hD hpre ⟨rfl, x, A9, d9, v', rfl, h2, h3, h4⟩ hm
            have hxm : x ∈ stepsL cc j false := hpre.mem (by simp)
            obtain ⟨g1, g2, g3, ⟨ph, g4⟩, g5, g6⟩ := stepsL_good hlt (by unfold fitB; simp) HP.out.1 x hxm
            have hlen := steps_less hlt HLJ.out HP.out.1 hxm
            have hhead : (stepsL cc j false).head? = some x := by
              obtain ⟨t, ht⟩ := hpre
              rw [← ht]
              rfl
            have hsh : shortest cc = some x := find_at hlt HI.out.2.2.2 (by simp only [HLJ.out, if_true]; exact hhead)
            obtain ⟨f', hf'⟩ : ∃ f', f = f' + 1 := ⟨f - 1, by have := HP.out.2.2.1; omega⟩
            have HE := Lib.hid (And.intro (MarksL.cons HM5.out.1 (HM5.out.1.same h2) hL5 hD hm) (And.intro h3 (And.intro (RdK.own (n0 := w.heap.size) h4 g6) (show shortenL (c.gates.length + 1) c = (outs ++ [x.1]) ++ shortenL f' x.2 by
              rw [HP.out.2.2.2.1, hf']
              conv => lhs; rw [shortenL, hsh]
              simp))))
            obtain ⟨_, _, e9, hd9⟩ := h4.form'
            cases e9
            have HN := Lib.hid (And.intro g6 (And.intro hd9 (And.intro hlen hf')))
            clear h2 h3 h4 hm g1 g2 g3 g4 g5 g6 hlen hhead hsh hf' hd9 hxm hpre
            gi_wp2_with fail
            obtain ⟨n1, n2, n3, n4⟩ := HN.out
            obtain ⟨p1, p2, p3, p4, p5⟩ := HP.out
            refine ⟨⟨{ target := .collected D, args := #[] } :: ds, x.2, A9, d9, v', outs ++ [x.1], f', _, _, _, _, _, _, _, _, _, _, _, _, _, _, _, _, _, _, _, _, _, _, _, rfl, Lib.hid ⟨HE.out.1, HE.out.2.1, HE.out.2.2.1⟩, Lib.hid ⟨n1, n2, by omega, HE.out.2.2.2, by simp; omega⟩⟩, ?_⟩
            rw [cLen_of HE.out.2.1.1, HLW.out]
            exact n3
      · have hge : ¬ (j : Int) < 44 := by omega
        have hc8 := Boxed.cell HI.out.2.1.2.1
        gi_wp2_with fail
        have hsl : (ShortenR c) = (0, outs) := by
          rw [HF.out, HP.out.2.2.2.1]
          obtain ⟨f', hf'⟩ : ∃ f', f = f' + 1 := ⟨f - 1, by have := HP.out.2.2.1; omega⟩
          have h44 : j = 44 := by omega
          have hno : shortest cc = none := by
            have := HI.out.2.2.2
            rw [h44] at this
            exact this
          rw [hf', shortenL, hno]
          simp
        refine leaves_marks (L := w3.heap.size + 1) (I := fun W => App (EMo 3 (w3.heap.size + 1)) 27 4 (w3.heap.size + 1) W (.slice A8 outs.length c8) outs ∧ Below w.heap.size w W) ?_ ?_ ds W HI.out.1.1 HI.out.1.2 ⟨HI.out.2.1.2.2.1, HI.out.2.1.2.2.2.2.1⟩
        · rintro s X Y row ⟨k2, k3⟩ hg hr
          exact ⟨k2.turn (EMo.bears _ _ (by decide)) (by decide) hg (fun r e => (hr r e).2), abide_below (L := w3.heap.size + 1) (by omega) (Nat.le_refl _) () X Y row k3 hg hr⟩
        · rintro w' ⟨k2, k3⟩
          refine ⟨_, results_list (rs := [.tmp 2, .tmp 3]) rfl (by simp) (.tmp (.tmp .nil)), .slice A8 outs.length c8, ?_, ?_, k3⟩
          · rw [hsl]; rfl
          · rw [hsl]
            exact k2.imp (by omega) fun x cs ⟨v, e1, e2⟩ => ⟨v, e1, e2.imp (by omega) fun _ _ h => h⟩
end Go.Proofs.YtfommmijojfdbaaGreatDoor
