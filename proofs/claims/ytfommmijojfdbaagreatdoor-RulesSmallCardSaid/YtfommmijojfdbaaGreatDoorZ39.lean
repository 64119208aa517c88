/- Part 40 of the proof that 'spoondriftlaw19.RulesApplies' holds for every input; it has no condition beyond the statement's own. -/
import Derived.Test.YtfommmijojfdbaaGreatDoorZ38
set_option linter.all false
namespace Go.Proofs.YtfommmijojfdbaaGreatDoor
open Go.RowKit Go.Shelf
attribute [local go_sem] Oper.semAt_some
section
variable {P : Program} {ops : Array Oper} {rest : List Oper} {o : Oper} {a : Act} {Q : Exit → Act → World → Prop} {F : Fence} {n : Nat}
theorem wpIn_apps {α : Type} {E E' : World → α → List Value → Prop} {W : World} (hE1 : One E') (hEE : ∀ x cs, E' W x cs → E W x cs) (T sz B : Nat) (hgd : o.guard = none) (s x : Operand) (t : TypeId) (z : Value) (bytes : Nat)
    (ho : o.op = .call { callee := .builtin .append, args := #[s, x], argTypes := #[t, t] })
    (ht : P.underlying t = some (.slice T)) (hinfo : (P.info? T).map (fun i => (i.zero, i.size, i.bytes)) = some (some z, sz, bytes)) (hz : z.cells.size = sz) (hs0 : 0 < sz) (hb0 : 0 < bytes)
    (v : Value) (xs ys : List α) (A : Option Addr) (c : Nat) (hs : a.eval s = v) (hx : a.eval x = .slice A ys.length c)
    (HR : Rd E' sz W A ys) (HO : App E T sz B W v xs) (hB : B ≤ W.heap.size) (hl : (xs.length + ys.length) * bytes ≤ 140737488355328)
    (hE : ∀ w1 n cs, W.ownsRow B T sz v n cs → W.grownBy w1 v.ownBlock → ∀ x cs, E W x cs → E w1 x cs)
    (h : ∀ v1 w1, App E T sz B w1 v1 (xs ++ ys) → W.grownBy w1 v.ownBlock → wpListIn F n P ops Q rest (a.put o.dst v1) w1) :
    wpListIn F n P ops Q (o :: rest) a W := by
  obtain ⟨v1, w1, h1, h2, h3⟩ := run_apps (P := P) hE1 hEE T sz B t o.type z bytes ht hinfo hz hs0 hb0 v xs ys A c HR HO hB hl hE
  refine wpListIn_plain hgd fun K hK => ?_
  unfold Oper.wpIn
  refine ⟨?_, ?_⟩
  · simp [Oper.about, ho, resolve, Target.leads, Sem.run_pure]
  · rw [Oper.semAt_plain F _ _ (by rw [ho]; intro c hc'; cases hc')]
    simp [execOp, ho, resolve, invoke, builtin, hs, hx, h1, Result.andThen]
    exact hK _ _ (h v1 w1 h2 h3)
end
theorem find_list {α β : Type} {F : α → Option β} {l : List α} {t : Nat} {x : α} {y : β} (ht : l[t]? = some x) (h : (l.take t).findSome? F = none) (hx : F x = some y) : l.findSome? F = some y := by
  obtain ⟨hl, e⟩ := List.getElem?_eq_some_iff.1 ht
  rw [← List.take_append_drop t l, List.findSome?_append, h, List.drop_eq_getElem_cons hl, e, List.findSome?_cons, hx]
  rfl
theorem find_next {α β : Type} {F : α → Option β} {l : List α} {t : Nat} {x : α} (ht : l[t]? = some x) (h : (l.take t).findSome? F = none) (hx : F x = none) : (l.take (t + 1)).findSome? F = none := by
  obtain ⟨hl, e⟩ := List.getElem?_eq_some_iff.1 ht
  rw [List.take_succ_eq_append_getElem hl, List.findSome?_append, h, e]
  simp [hx]
theorem find_pre {α β : Type} {F : α → Option β} {p l : List α} {y : β} (hp : p <+: l) (h : p.findSome? F = some y) : l.findSome? F = some y := by
  obtain ⟨s, rfl⟩ := hp
  rw [List.findSome?_append, h]
  rfl
theorem reachedL_succ (n : Nat) (c d : C) : reachedL (n + 1) c d = (List.range 44).findSome? fun i => [false, true].findSome? fun back => if fitB i back = true then (stepsL c i back).findSome? (fun x => (reachedL n x.2 d).map (x.1 :: ·)) else none := rfl
theorem reachedL_len : ∀ {n : Nat} {c d : C} {l : List M}, reachedL n c d = some l → l.length ≤ n
  | 0, c, d, l, h => by
    unfold reachedL at h
    split at h
    · cases h; simp
    · cases h
  | n + 1, c, d, l, h => by
    rw [reachedL_succ] at h
    obtain ⟨i, _, h⟩ := List.exists_of_findSome?_eq_some h
    obtain ⟨b, _, h⟩ := List.exists_of_findSome?_eq_some h
    split at h
    · obtain ⟨x, _, h⟩ := List.exists_of_findSome?_eq_some h
      obtain ⟨l', h', rfl⟩ := Option.map_eq_some_iff.1 h
      have := reachedL_len h'
      simp
      omega
    · cases h
def rG (n : Nat) (c d : C) (i : Nat) (back : Bool) : Option (List M) := if fitB i back = true then (stepsL c i back).findSome? (fun x => (reachedL n x.2 d).map (x.1 :: ·)) else none
def NoneTo (n : Nat) (c d : C) (i : Nat) : Prop := (List.range i).findSome? (fun i => [false, true].findSome? (rG n c d i)) = none
def NoneIn (n : Nat) (c d : C) (i t : Nat) : Prop := ([false, true].take t).findSome? (rG n c d i) = none
def NoneOf (n : Nat) (d : C) (pre : List (M × C)) : Prop := pre.findSome? (fun x => (reachedL n x.2 d).map (x.1 :: ·)) = none
theorem NoneIn.next {n : Nat} {c d : C} {i t : Nat} {bk : Bool} (ht : [false, true][t]? = some bk) (h : NoneIn n c d i t) (hx : rG n c d i bk = none) : NoneIn n c d i (t + 1) := find_next ht h hx
theorem NoneTo.next {n : Nat} {c d : C} {i : Nat} (h : NoneTo n c d i) (h2 : NoneIn n c d i 2) : NoneTo n c d (i + 1) := by
  unfold NoneTo
  rw [range_find, show (List.range i).findSome? (fun i => [false, true].findSome? (rG n c d i)) = none from h]
  exact h2
theorem NoneTo.found {n : Nat} {c d : C} {i t : Nat} {bk : Bool} {l : List M} {pre : List (M × C)} (hi : i < 44) (h : NoneTo n c d i) (ht : [false, true][t]? = some bk) (h2 : NoneIn n c d i t) (hf : fitB i bk = true) (hp : pre <+: stepsL c i bk) (hx : pre.findSome? (fun x => (reachedL n x.2 d).map (x.1 :: ·)) = some l) : reachedL (n + 1) c d = some l := by
  rw [reachedL_succ]
  refine find_at hi h (find_list ht h2 ?_)
  show (if fitB i bk = true then _ else _) = _
  rw [if_pos hf]
  exact find_pre hp hx
theorem NoneTo.all {n : Nat} {c d : C} (h : NoneTo n c d 44) : reachedL (n + 1) c d = none := by
  rw [reachedL_succ]
  exact h
def RS (w : World) (A : Option Addr) (k : Nat) (c : C) (D : Option Addr) (m : Nat) (d : C) (z : Int) (W : World) : Prop :=
  W.heap[w.heap.size]? = some (.cells #[.int .i64 c.wires, .int .i64 c.bits, .slice A c.gates.length k] 24 (0, 0)) ∧ W.heap[w.heap.size + 1]? = some (.cells #[.int .i64 d.wires, .int .i64 d.bits, .slice D d.gates.length m] 24 (0, 0)) ∧
  W.heap[w.heap.size + 2]? = some (.cells #[.int .i64 z] 3 (0, 0)) ∧ W.heap[w.heap.size + 3]? = some (.cells #[.slice none 0 0] 30 (0, 0)) ∧ W.heap[w.heap.size + 4]? = some (.cells #[.bool false] 4 (0, 0)) ∧
  Below w.heap.size w W ∧ w.heap.size + 5 ≤ W.heap.size
theorem RS.below {w : World} {A : Option Addr} {k : Nat} {c : C} {D : Option Addr} {m : Nat} {d : C} {z : Int} {W W' : World} (h : RS w A k c D m d z W) (hb : Below W.heap.size W W') : RS w A k c D m d z W' :=
  ⟨blk2 hb h.1, blk2 hb h.2.1, blk2 hb h.2.2.1, blk2 hb h.2.2.2.1, blk2 hb h.2.2.2.2.1, h.2.2.2.2.2.1.trans (hb.mono h.2.2.2.2.2.1.size), Nat.le_trans h.2.2.2.2.2.2 hb.size⟩
theorem RS.abide {β : Type} {w : World} {A : Option Addr} {k : Nat} {c : C} {D : Option Addr} {m : Nat} {d : C} {z : Int} {L : Nat} (hL : w.heap.size + 5 ≤ L) : Abide L (fun (_ : β) W => RS w A k c D m d z W) := fun _ W W' row h hg hr => by
  have ne : ∀ {b : Nat}, b < L → some b ≠ row := fun h e => by have := (hr _ e.symm).1; omega
  exact ⟨(hg.block _ (blk_lt h.1) (ne (by omega))).trans h.1, (hg.block _ (blk_lt h.2.1) (ne (by omega))).trans h.2.1, (hg.block _ (blk_lt h.2.2.1) (ne (by omega))).trans h.2.2.1, (hg.block _ (blk_lt h.2.2.2.1) (ne (by omega))).trans h.2.2.2.1, (hg.block _ (blk_lt h.2.2.2.2.1) (ne (by omega))).trans h.2.2.2.2.1,
    h.2.2.2.2.2.1.grown hg h.2.2.2.2.2.1.size (fun r e => by have := (hr r e).1; omega), Nat.le_trans h.2.2.2.2.2.2 hg.size⟩
set_option maxRecDepth 1000000 in
set_option maxHeartbeats 8000000 in
theorem reached_any : ∀ (n : Nat), n ≤ 1000 → ∀ (A D : Option Addr) (k m : Nat) (c d : C) (w : World), Hid (Laid w) → RdG w A c.gates → c.gates.length ≤ k → RdG w D d.gates → Good c →
    Calls Tryz.prog 80 #[.agg #[.int .i64 c.wires, .int .i64 c.bits, .slice A c.gates.length k], .agg #[.int .i64 d.wires, .int .i64 d.bits, .slice D d.gates.length m], .int .i64 n] w (RetL (reachedL n c d) w)
  | 0, _, A, D, k, m, c, d, w, _, h, _, h', _ => reached_zero A D k m c d w h h'
  | n + 1, hn, A, D, k, m, c, d, w, HT, h, hk, h', hG => by
    have ih := reached_any n (by omega)
    have HIH := Lib.hid ih
    have HH := Lib.hid (And.intro h (And.intro h' hG))
    clear h h' hG ih
    obtain ⟨z, hz⟩ : ∃ z : Int, ((n + 1 : Nat) : Int) = z := ⟨_, rfl⟩
    have hz0 : (z == 0) = false := by simp; omega
    have hzw : IntKind.i64.wrap (z - 1) = (n : Int) := by rw [show z - 1 = (n : Int) by omega]; exact IntWalk.i64_in _ (by omega)
    rw [hz]
    clear hz
    obtain ⟨W1, hW1⟩ : ∃ W1, ((((w.alloc (.cells #[.int .i64 c.wires, .int .i64 c.bits, .slice A c.gates.length k] 24)).alloc (.cells #[.int .i64 d.wires, .int .i64 d.bits, .slice D d.gates.length m] 24)).alloc (.cells #[.int .i64 z] 3)).alloc (.cells #[.slice none 0 0] 30)).alloc (.cells #[.bool false] 4) = W1 := ⟨_, rfl⟩
    have hb1 : Below w.heap.size w W1 := by rw [← hW1]; (repeat (first|exact bR _ _|assumption|apply bN|apply bA|apply bD))
    have p0 : W1.heap[w.heap.size]? = some (.cells #[.int .i64 c.wires, .int .i64 c.bits, .slice A c.gates.length k] 24 (0, 0)) := by rw [← hW1]; exact alloc_old (alloc_old (alloc_old (alloc_old (blk_alloc _ _ _ rfl))))
    have p1 : W1.heap[w.heap.size + 1]? = some (.cells #[.int .i64 d.wires, .int .i64 d.bits, .slice D d.gates.length m] 24 (0, 0)) := by rw [← hW1]; exact alloc_old (alloc_old (alloc_old (blk_alloc _ _ _ (by simp))))
    have p2 : W1.heap[w.heap.size + 2]? = some (.cells #[.int .i64 z] 3 (0, 0)) := by rw [← hW1]; exact alloc_old (alloc_old (blk_alloc _ _ _ (by simp)))
    have p3 : W1.heap[w.heap.size + 3]? = some (.cells #[.slice none 0 0] 30 (0, 0)) := by rw [← hW1]; exact alloc_old (blk_alloc _ _ _ (by simp))
    have p4 : W1.heap[w.heap.size + 4]? = some (.cells #[.bool false] 4 (0, 0)) := by rw [← hW1]; exact blk_alloc _ _ _ (by simp)
    have hz1 : w.heap.size + 5 ≤ W1.heap.size := by rw [← hW1]; simp
    have c2 := Boxed.cell p2
    have HS := Lib.hid (show MarksL (w.heap.size + 5) W1 [] ∧ RS w A k c D m d z W1 ∧ NoneTo n c d 0 from
      ⟨⟨trivial, fun d hd => by cases hd⟩, ⟨p0, p1, p2, p3, p4, hb1, hz1⟩, rfl⟩)
    clear p0 p1 p2 p3 p4 hb1 hz1
    refine (callsIn_wide (n := 0)).1 (callsIn_of_wp_marks Tryz.func80 rfl trivial ?_ rfl)
    simp only [Tryz.ntmps80, List.size_toArray, List.length_cons, List.length_nil, Nat.reduceAdd, Nat.reduceSub, Array.replicate_succ, Array.replicate_zero, List.push_toArray, List.append_toArray, List.nil_append, List.cons_append]
    gi_wp2_with fail
    try rw [hW1]
    clear hW1
    refine wpIn_loop (fun a' W => ∃ (ds : List Deferred) (i : Nat), ∃ u8 u10 u11 u12 u13 u14 u21 u22 u23 u24 u25 u26 u27 u28 u29 u30 u31 u32 u33 u34 u35 u36 u37 u38 u39 u40 u41 u42 u43 u44 u45 u46 u47 u48 u49 u50 u51 u52 u53 u54 u55 u56 : Value, i ≤ 44 ∧ a' = { tmps := #[.agg #[.int .i64 c.wires, .int .i64 c.bits, .slice A c.gates.length k], .agg #[.int .i64 d.wires, .int .i64 d.bits, .slice D d.gates.length m], .int .i64 z, .pointer (some ⟨w.heap.size, 0, none⟩), .pointer (some ⟨w.heap.size + 1, 0, none⟩), .pointer (some ⟨w.heap.size + 2, 0, none⟩), .pointer (some ⟨w.heap.size + 3, 0, none⟩), .pointer (some ⟨w.heap.size + 4, 0, none⟩), u8, undef, u10, u11, u12, u13, u14, .int .i64 z, .bool false, undef, undef, undef, .int .i64 i, u21, u22, u23, u24, u25, u26, u27, u28, u29, u30, u31, u32, u33, u34, u35, u36, u37, u38, u39, u40, u41, u42, u43, u44, u45, u46, u47, u48, u49, u50, u51, u52, u53, u54, u55, u56], defers := ds } ∧ Hid (MarksL (w.heap.size + 5) W ds ∧ RS w A k c D m d z W ∧ NoneTo n c d i)) (fun a' _ => 44 - (intOf (a'.tmps.getD 20 undef)).toNat) ?start ?round
    case start => exact ⟨[], 0, _, _, _, _, _, _, _, _, _, _, _, _, _, _, _, _, _, _, _, _, _, _, _, _, _, _, _, _, _, _, _, _, _, _, _, _, _, _, _, _, _, _, by omega, rfl, HS⟩
    case round =>
      clear HS c2
      rintro a' W ⟨ds, i, u8, u10, u11, u12, u13, u14, u21, u22, u23, u24, u25, u26, u27, u28, u29, u30, u31, u32, u33, u34, u35, u36, u37, u38, u39, u40, u41, u42, u43, u44, u45, u46, u47, u48, u49, u50, u51, u52, u53, u54, u55, u56, hi, rfl, HI⟩
      by_cases hlt : i < 44
      · have hlti : (i : Int) < 44 := by omega
        have HFI := Lib.hid HI.out.2.2
        have HS := Lib.hid (show MarksL (w.heap.size + 5) (W.alloc (.cells #[.bool false, .bool true] 4)) ds ∧ RS w A k c D m d z (W.alloc (.cells #[.bool false, .bool true] 4)) ∧ (W.alloc (.cells #[.bool false, .bool true] 4)).heap[W.heap.size]? = some (.cells #[.bool false, .bool true] 4 (0, 0)) ∧ NoneIn n c d i 0 from
          ⟨HI.out.1.below (by (repeat (first|exact bR _ _|assumption|apply bN|apply bA|apply bD))), HI.out.2.1.below (by (repeat (first|exact bR _ _|assumption|apply bN|apply bA|apply bD))), blk_alloc _ _ _ rfl, rfl⟩)
        have hbsL : w.heap.size + 5 ≤ W.heap.size := HI.out.2.1.2.2.2.2.2.2
        obtain ⟨bs, hbs⟩ : ∃ b, W.heap.size = b := ⟨_, rfl⟩
        gi_wp2_with fail
        try rw [hbs]
        rw [hbs] at HS hbsL
        clear HI
        refine wpIn_loop (fun a' W => ∃ (ds : List Deferred) (t : Nat), ∃ u10 u11 u12 u13 u14 u26 u27 u28 u29 u30 u31 u32 u33 u34 u35 u36 u37 u38 u39 u40 u41 u42 u43 u44 u45 u46 u47 u48 u49 u50 u51 u52 u53 u54 u55 u56 : Value, t ≤ 2 ∧ a' = { tmps := #[.agg #[.int .i64 c.wires, .int .i64 c.bits, .slice A c.gates.length k], .agg #[.int .i64 d.wires, .int .i64 d.bits, .slice D d.gates.length m], .int .i64 z, .pointer (some ⟨w.heap.size, 0, none⟩), .pointer (some ⟨w.heap.size + 1, 0, none⟩), .pointer (some ⟨w.heap.size + 2, 0, none⟩), .pointer (some ⟨w.heap.size + 3, 0, none⟩), .pointer (some ⟨w.heap.size + 4, 0, none⟩), .int .i64 i, undef, u10, u11, u12, u13, u14, .int .i64 z, .bool false, undef, undef, undef, .int .i64 i, .bool true, .int .i64 i, .slice (some ⟨bs, 0, none⟩) 2 2, .int .i64 2, .int .i64 t, u26, u27, u28, u29, u30, u31, u32, u33, u34, u35, u36, u37, u38, u39, u40, u41, u42, u43, u44, u45, u46, u47, u48, u49, u50, u51, u52, u53, u54, u55, u56], defers := ds } ∧ Hid (MarksL (w.heap.size + 5) W ds ∧ RS w A k c D m d z W ∧ W.heap[bs]? = some (.cells #[.bool false, .bool true] 4 (0, 0)) ∧ NoneIn n c d i t)) (fun a' _ => 2 - (intOf (a'.tmps.getD 25 undef)).toNat) ?start ?round
        case start => exact ⟨ds, 0, _, _, _, _, _, _, _, _, _, _, _, _, _, _, _, _, _, _, _, _, _, _, _, _, _, _, _, _, _, _, _, _, _, _, _, _, by omega, rfl, HS⟩
        case round =>
          clear HS hbs
          rintro a' W4 ⟨ds, t, u10, u11, u12, u13, u14, u26, u27, u28, u29, u30, u31, u32, u33, u34, u35, u36, u37, u38, u39, u40, u41, u42, u43, u44, u45, u46, u47, u48, u49, u50, u51, u52, u53, u54, u55, u56, ht, rfl, HI⟩
          by_cases hlt2 : t < 2
          · have hlti2 : (t : Int) < 2 := by omega
            obtain ⟨bk, hbk⟩ : ∃ bk, [false, true][t]? = some bk := ⟨_, List.getElem?_eq_getElem hlt2⟩
            have hcb : W4.cell? ⟨bs, t, none⟩ = some (.bool bk) := by
              rw [cell_of_row _ _ t _ _ (0, 0) HI.out.2.2.1]
              rcases (show t = 0 ∨ t = 1 by omega) with rfl | rfl <;> (cases hbk; rfl)
            have HBK := Lib.hid hbk
            have hla := HT.out.below HI.out.2.1.2.2.2.2.2.1
            obtain ⟨fx, hfx, eg, hfit⟩ := fits_any i bk
            rw [fitN_fitB] at hfit
            have HFX := Lib.hid (And.intro hfx hfit)
            clear hfx hfit hbk
            gi_wp2_with fail
            refine ⟨trivial, rfl, CallsIn.mono (callsIn_wide.2 (ruled_any i hlt W4 (Lib.hid hla))) ?_⟩
            rintro e w5 ⟨v1, v2, rfl, ho1, ho2, hb5⟩
            obtain ⟨A1, c1, rfl, _⟩ := ho1.form'
            obtain ⟨A2, c2, rfl, _⟩ := ho2.form'
            rw [HFX.out.1]
            have hfd : ∀ W : World, (Instr.field 88 (.agg #[.slice A1 (ruleL i).length c1, .slice A2 (ruleR i).length c2, .int .i64 (ruleW i), .int .i64 (ruleP i), .func (.func fx) #[] #[]]) 4).run Tryz.prog W = .ok (.func (.func fx) #[] #[]) W := fun W => by kernel_rfl
            have HM5 := Lib.hid (And.intro (HI.out.1.below hb5) (And.intro (HI.out.2.1.below hb5) (And.intro (blk2 hb5 HI.out.2.2.1) HI.out.2.2.2)))
            have hz5 := hb5.size
            have hbs4 := blk_lt HI.out.2.2.1
            clear ho1 ho2 hb5 hla HI hcb
            gi_wp2_with fail
            refine ⟨trivial, rfl, CallsIn.mono (callsIn_wide.2 (HFX.out.2 w5)) ?_⟩
            rintro e w6 ⟨rfl, rfl⟩
            clear hfd eg
            obtain ⟨ft, hft⟩ : ∃ q, fitB i bk = q := ⟨_, rfl⟩
            rw [hft]
            have HFT := Lib.hid hft
            clear hft
            cases ft
            · gi_wp2_with fail
              refine ⟨⟨ds, t + 1, _, _, _, _, _, _, _, _, _, _, _, _, _, _, _, _, _, _, _, _, _, _, _, _, _, _, _, _, _, _, _, _, _, _, _, _, by omega, rfl, Lib.hid ⟨HM5.out.1, HM5.out.2.1, HM5.out.2.2.1, HM5.out.2.2.2.next HBK.out (by unfold rG; rw [HFT.out]; rfl)⟩⟩, ?_⟩
              simp [intOf]
              omega
            · obtain ⟨f0, f1, f2, ff⟩ := cells3 HM5.out.2.1.1
              gi_wp2_with fail
              refine ⟨trivial, rfl, CallsIn.mono (callsIn_wide.2 (steps_any A k c i bk w5)) ?_⟩
              rintro e w6 ⟨rfl, hw6⟩
              have hb6 : Below w5.heap.size w5 w6 := by rw [hw6]; (repeat (first|exact bR _ _|assumption|apply bN|apply bA|apply bD))
              have hz6 : w6.heap.size = w5.heap.size + 3 := by rw [hw6]; simp
              have s0 : w6.heap[w5.heap.size]? = some (.cells #[.int .i64 c.wires, .int .i64 c.bits, .slice A c.gates.length k] 93 (0, 0)) := by rw [hw6]; exact alloc_old (alloc_old (blk_alloc _ _ _ rfl))
              have s1 : w6.heap[w5.heap.size + 1]? = some (.cells #[.int .i64 i] 3 (0, 0)) := by rw [hw6]; exact alloc_old (blk_alloc _ _ _ (by simp))
              have s2 : w6.heap[w5.heap.size + 2]? = some (.cells #[.bool bk] 4 (0, 0)) := by rw [hw6]; exact blk_alloc _ _ _ (by simp)
              clear hw6 f0 f1 f2 ff
              have hL5 : w.heap.size + 5 ≤ w5.heap.size := HM5.out.2.1.2.2.2.2.2.2
              have hk6 : Keep ex2 w.heap.size w5 w6 := Keep.of_below hb6 (by omega)
              have hit := steps1_iter w.heap.size w5.heap.size c A k i bk w6 hlt HFT.out HH.out.2.2 hk (by omega) (by omega) s0 s1 s2 (fun W' hW' => ⟨HT.out.below (HM5.out.2.1.2.2.2.2.2.1.trans (hk6.trans hW').1), HH.out.1.bG (HM5.out.2.1.2.2.2.2.2.1.trans (hk6.trans hW').1)⟩)
              have HM6 := Lib.hid (And.intro (HM5.out.1.below hb6) (And.intro (HM5.out.2.1.below hb6) (blk2 hb6 HM5.out.2.2.1)))
              have hbs6 : bs < w6.heap.size := by omega
              have hL6 : w.heap.size + 5 ≤ w6.heap.size := by omega
              clear hb6 s0 s1 s2 hk6
              gi_wp2_with fail
              refine rf_law (gf := 114) (lb := #[.pointer (some ⟨w5.heap.size + 1, 0, none⟩), .pointer (some ⟨w5.heap.size + 2, 0, none⟩), .pointer (some ⟨w5.heap.size, 0, none⟩)]) rfl (enters_of Tryz.func114 (by kernel_rfl) rfl) hit (fun h k => h.trans k)
                (fun W l o o' hl ho hL => Keep.put o' hl ho (by omega)) (fun _ _ _ ⟨_, _, h, _⟩ => by rw [h]; rfl)
                (fun pre Y => NoneOf n d pre ∧ (∀ D : Nat, w6.heap[D]? = some (Obj.deferred (some [])) → Y.heap[D]? = some (Obj.deferred (some []))) ∧ RS w A k c D m d z Y ∧ Y.heap[bs]? = some (.cells #[.bool false, .bool true] 4 (0, 0)) ∧ w6.heap.size ≤ Y.heap.size)
                (fun ce pre Y => ce = .ret ∧ ∃ l v, pre.findSome? (fun x : M × C => (reachedL n x.2 d).map (x.1 :: ·)) = some l ∧ (∀ D : Nat, w6.heap[D]? = some (Obj.deferred (some [])) → Y.heap[D]? = some (Obj.deferred (some []))) ∧ Y.heap[w.heap.size + 3]? = some (.cells #[v] 30 (0, 0)) ∧ App (EMo 3 w.heap.size) 27 4 w.heap.size Y v l ∧ Y.heap[w.heap.size + 4]? = some (.cells #[.bool true] 4 (0, 0)) ∧ Below w.heap.size w Y) ?hI ?hIx ?h0
                (fun x a' Y => ∃ b b' A' d' A9 d9, a' = { tmps := #[.agg #[.int .i64 c.wires, .int .i64 c.bits, .slice A c.gates.length k], .agg #[.int .i64 d.wires, .int .i64 d.bits, .slice D d.gates.length m], .int .i64 z, .pointer (some ⟨w.heap.size, 0, none⟩), .pointer (some ⟨w.heap.size + 1, 0, none⟩), .pointer (some ⟨w.heap.size + 2, 0, none⟩), .pointer (some ⟨w.heap.size + 3, 0, none⟩), .pointer (some ⟨w.heap.size + 4, 0, none⟩), .int .i64 i, undef, .bool bk, .pointer (some ⟨b, 0, none⟩), .pointer (some ⟨b', 0, none⟩), u13, u14, .int .i64 z, .bool false, undef, undef, undef, .int .i64 i, .bool true, .int .i64 i, .slice (some ⟨bs, 0, none⟩) 2 2, .int .i64 2, .int .i64 t, .bool true, .pointer (some ⟨bs, t, none⟩), .bool bk, .int .i64 i, .agg #[.slice A1 (ruleL i).length c1, .slice A2 (ruleR i).length c2, .int .i64 (ruleW i), .int .i64 (ruleP i), .func (.func fx) #[] #[]], .func (.func fx) #[] #[], .bool bk, .bool true, .bool false, .agg #[.int .i64 c.wires, .int .i64 c.bits, .slice A c.gates.length k], .agg #[.int .i64 c.wires, .int .i64 c.bits, .slice A c.gates.length k], .int .i64 i, .bool bk, .func (.func 114) #[] #[.pointer (some ⟨w5.heap.size + 1, 0, none⟩), .pointer (some ⟨w5.heap.size + 2, 0, none⟩), .pointer (some ⟨w5.heap.size, 0, none⟩)], .agg #[.int .i64 x.1.rule, .int .i64 x.1.at_, .bool x.1.back, .slice A' x.1.wires.length d'], .agg #[.int .i64 x.2.wires, .int .i64 x.2.bits, .slice A9 x.2.gates.length d9], u42, u43, u44, u45, u46, u47, u48, u49, u50, u51, u52, u53, u54, u55, u56], defers := [] } ∧ w6.heap.size ≤ b ∧ Y.heap[b]? = some (.cells #[.int .i64 x.1.rule, .int .i64 x.1.at_, .bool x.1.back, .slice A' x.1.wires.length d'] 27 (0, 0)) ∧ App EI 3 1 w6.heap.size Y (.slice A' x.1.wires.length d') x.1.wires ∧ w6.heap.size ≤ b' ∧ Y.heap[b']? = some (.cells #[.int .i64 x.2.wires, .int .i64 x.2.bits, .slice A9 x.2.gates.length d9] 24 (0, 0)) ∧ Own 3 55 w6.heap.size Y (.slice A9 x.2.gates.length d9) x.2.gates) ?hAx ?assign ?body ?done ?stop
              case hI => exact (abide_pure _).and ((HM6.out.1.abide).and ((RS.abide (by omega)).and ((abide_block (fun _ => _) (by omega)).and abide_size)))
              case hIx =>
                rintro ce s Y Y' row ⟨h1, l, v, h2, h3, h4, h5, h6, h7⟩ hg hr
                exact ⟨h1, l, v, h2, HM6.out.1.abide (β := Unit) () Y Y' row h3 hg hr, abide_block (L := w6.heap.size) (fun _ : Unit => _) (by omega) () Y Y' row h4 hg hr, h5.turn (EMo.bears _ _ (by decide)) (by decide) hg (fun r e => (hr r e).2), abide_block (L := w6.heap.size) (fun _ : Unit => _) (by omega) () Y Y' row h6 hg hr, abide_below (L := w6.heap.size) (by omega) (Nat.le_refl _) () Y Y' row h7 hg hr⟩
              case h0 => exact ⟨rfl, fun _ h => h, HM6.out.2.1, HM6.out.2.2, Nat.le_refl _⟩
              case hAx =>
                rintro a' s Y Y' row ⟨b, b', A', d', A9, d9, h1, h2, h3, h4, h5, h6, h7⟩ hg hr
                have ne : ∀ {q : Nat} {cs : Array Value} {T : TypeId}, Y.heap[q]? = some (.cells cs T (0, 0)) → T ≠ 4 → some q ≠ row := fun {q cs T} hq hT e => by
                  obtain ⟨o, ho, ht⟩ := (hr q e.symm).2
                  rw [hq] at ho
                  cases ho
                  rcases ht with ht | ⟨z, hz⟩
                  · cases ht
                  · injection hz with _ h2'; exact hT h2'
                obtain ⟨ps, e1, e2, e3⟩ := h7
                exact ⟨b, b', A', d', A9, d9, h1, h2, (hg.block b (blk_lt h3) (ne h3 (by decide))).trans h3, h4.turn EI.bears (by decide) hg (fun r e => (hr r e).2), h5, (hg.block b' (blk_lt h6) (ne h6 (by decide))).trans h6, ⟨ps, e1, e2, e3.turn (EGv.bears _ _ (by decide)) (by decide) hg (fun r e => (hr r e).2)⟩⟩
              case assign =>
                rintro l0 pre x args Y K9 ⟨h1, h2, h3, h4, h5⟩ ⟨v1, v2, rfl, hx1, hx2⟩ hK
                obtain ⟨A', d', rfl, _⟩ := hx1.form
                obtain ⟨A9, d9, rfl, _⟩ := hx2.form'
                have HIY := Lib.hid (And.intro h1 (And.intro h2 (And.intro h3 (And.intro h4 h5))))
                have HX := Lib.hid (And.intro hx1 hx2)
                have HK := Lib.hid hK
                clear h1 h2 h3 h4 h5 hx1 hx2 hK
                gi_wp2
                obtain ⟨h1, h2, h3, h4, h5⟩ := HIY.out
                have hb : Below Y.heap.size Y ((Y.alloc (.cells #[.int .i64 x.1.rule, .int .i64 x.1.at_, .bool x.1.back, .slice A' x.1.wires.length d'] 27)).alloc (.cells #[.int .i64 x.2.wires, .int .i64 x.2.bits, .slice A9 x.2.gates.length d9] 24)) := by (repeat (first|exact bR _ _|assumption|apply bN|apply bA|apply bD))
                exact HK.out _ _ (keepsFrom_of (grown_of_below hb none) (fun r e => by cases e)) (Keep.of_below hb (by omega)) ⟨h1, fun D h => blk2 hb (h2 D h), h3.below hb, blk2 hb h4, Nat.le_trans h5 hb.size⟩
                  ⟨Y.heap.size, Y.heap.size + 1, A', d', A9, d9, rfl, h5, alloc_old (blk_alloc _ _ _ rfl), HX.out.1.below EI.stays hb, by omega, blk_alloc _ _ _ (by simp), HX.out.2.below hb⟩
              case body =>
                rintro l0 pre x a' Y ⟨h1, h2, h3, h4, h5⟩ ⟨b, b', A', d', A9, d9, rfl, hbw, hbc, hx1, hbw', hbc', hx2⟩ hpre
                have hxm : x ∈ stepsL c i bk := hpre.mem (by simp)
                have hG9 := (stepsL_good hlt HFT.out HH.out.2.2 x hxm).2.2.2.2.2
                obtain ⟨_, _, e9, hd9, hr9⟩ := hx2.rd (by have := hG9.len; omega) (fun g hg => by have := hG9.wires g hg; omega)
                cases e9
                have hih := HIH.out A9 D d9 m x.2 d Y (Lib.hid (HT.out.below h3.2.2.2.2.2.1)) hr9 hd9 (HH.out.2.1.bG h3.2.2.2.2.2.1) hG9
                have ec2 := Boxed.cell h3.2.2.1
                obtain ⟨y0, y1, y2, yf⟩ := cells3 hbc'
                obtain ⟨z0, z1, z2, zf⟩ := cells3 h3.2.1
                obtain ⟨rl, hrl⟩ : ∃ r, reachedL n x.2 d = r := ⟨_, rfl⟩
                rw [hrl] at hih
                have HRL := Lib.hid hrl
                have HBY := Lib.hid h3.2.2.2.2.2.1
                have HIY := Lib.hid (And.intro h1 (And.intro h2 (And.intro h3 (And.intro h4 (And.intro h5 (And.intro hbc hx1))))))
                clear h1 h2 h3 h4 h5 hbc hx1 hbc' hx2 hr9 hrl
                dsimp only
                gi_wp2_with fail
                refine ⟨trivial, rfl, CallsIn.mono (callsIn_wide.2 hih) ?_⟩
                clear hih y0 y1 y2 yf z0 z1 z2 zf ec2
                rintro e w7 ⟨v7, q7, rfl, hq7, ho7, hb7⟩
                obtain ⟨A7, c7, rfl, _⟩ := ho7.form
                have hs7 := hb7.size
                cases q7
                · have hno : rl = none := by
                    cases rl with
                    | none => rfl
                    | some l => cases hq7
                  have HB7 := Lib.hid hb7
                  clear hb7 ho7 hq7
                  gi_wp2_with fail
                  obtain ⟨h1, h2, h3, h4, h5, h6, h7⟩ := HIY.out
                  have hb := HB7.out
                  refine ⟨keepsFrom_of (grown_of_below hb none) (fun r e => by cases e), Keep.of_below hb (by omega), ?_, fun D9 hD9 => blk2 hb (h2 D9 hD9), h3.below hb, blk2 hb h4, Nat.le_trans h5 hb.size⟩
                  show List.findSome? _ _ = none
                  rw [List.findSome?_append, show pre.findSome? (fun x => (reachedL n x.2 d).map (x.1 :: ·)) = none from h1]
                  simp [HRL.out, hno]
                · obtain ⟨l, rfl⟩ : ∃ l, rl = some l := by
                    cases rl with
                    | none => cases hq7
                    | some l => exact ⟨l, rfl⟩
                  clear hq7
                  rw [Option.getD_some] at ho7 ⊢
                  have hlen9 := reachedL_len HRL.out
                  obtain ⟨_, _, e7, _, hr7⟩ := ho7.rd (by omega)
                  cases e7
                  obtain ⟨h1, h2, h3, h4, h5, h6, h7⟩ := HIY.out
                  have h37 := h3.below hb7
                  have h67 := blk2 hb7 h6
                  have h77 := h7.below EI.stays hb7
                  obtain ⟨k0, k1, k2, k3, kf⟩ := cells4 h67
                  have lk := blk_lt h67
                  have hold := olds w7
                  have hwY : w.heap.size ≤ Y.heap.size := by omega
                  have hLIT : App (EMo 3 w.heap.size) 27 4 w.heap.size (w7.alloc (.cells #[.int .i64 x.1.rule, .int .i64 x.1.at_, .bool x.1.back, .slice A' x.1.wires.length d'] 27)) (.slice (some ⟨w7.heap.size, 0, none⟩) 1 1) [x.1] := by
                    refine App.lit (xs := [x.1]) (cs := [.int .i64 x.1.rule, .int .i64 x.1.at_, .bool x.1.back, .slice A' x.1.wires.length d']) (by omega) (by simp) ⟨rfl, fun j p hj => ?_⟩
                    rcases j with _ | j
                    · cases hj
                      exact ⟨_, rfl, (h77.alloc EI.stays _).imp (by omega) fun _ _ h => h⟩
                    · simp at hj
                  have HAP := Lib.hid (And.intro hLIT (And.intro (hr7.below (EMo.stays _ _) (below_alloc (Below.refl w7.heap.size w7) (.cells #[.int .i64 x.1.rule, .int .i64 x.1.at_, .bool x.1.back, .slice A' x.1.wires.length d'] 27))) (And.intro h37 hb7)))
                  have HFD := Lib.hid (And.intro h1 (And.intro h2 h5))
                  have hbo3 := blk_lt h37.2.2.2.1
                  have hbo4 := blk_lt h37.2.2.2.2.1
                  clear hLIT hr7 h37 hb7 h67 h77 h1 h2 h3 h4 h5 h6 h7 ho7 HIY
                  dsimp only
                  gi_wp2_with (gi_at_builtin; refine wpIn_apps (E := EMo 3 w.heap.size) (E' := EMo 3 Y.heap.size) (W := w7.alloc (.cells #[.int .i64 x.1.rule, .int .i64 x.1.at_, .bool x.1.back, .slice A' x.1.wires.length d'] 27)) (EMo.one _ _) (fun x cs ⟨v, e, hv⟩ => ⟨v, e, hv.imp (by omega) fun _ _ h => h⟩) 27 4 w.heap.size rfl _ _ 30 (.agg #[.int .i64 0, .int .i64 0, .bool false, .slice none 0 0]) 48 rfl Tryz.underlying30 (by kernel_rfl) rfl (by decide) (by decide) (.slice (some ⟨w7.heap.size, 0, none⟩) 1 1) [x.1] l A7 c7 rfl (by first | rfl | (show Value.slice A7 _ c7 = _; simp; done) | (trace_state; fail)) HAP.out.2.1 HAP.out.1 (by simp; omega) (by simp; omega) (fun w1 n cs hown hg x1 cs1 ⟨v, e, hv⟩ => ⟨v, e, hv.other hown hg (by decide)⟩) ?_; intro v1 w1 ho hg; obtain ⟨A6, c6, hv6, hc6⟩ := ho.form; rw [List.singleton_append, List.length_cons] at hv6; subst hv6; have hN3 := (hg.block (w.heap.size + 3) (by simp; omega) (fun e => by simp [Value.ownBlock] at e; omega)).trans (alloc_old HAP.out.2.2.1.2.2.2.1); have hN4 := (hg.block (w.heap.size + 4) (by simp; omega) (fun e => by simp [Value.ownBlock] at e; omega)).trans (alloc_old HAP.out.2.2.1.2.2.2.2.1); have e3 := Boxed.cell hN3; have e3' := Boxed.frozen hN3; have e4 := Boxed.cell hN4; have e4' := Boxed.frozen hN4; have HG7 := Lib.hid (And.intro ho (And.intro hg (And.intro hN3 hN4))); clear ho hg hN3 hN4)
                  obtain ⟨g1, g2, g3, g4⟩ := HG7.out
                  obtain ⟨_, _, h37, hb7⟩ := HAP.out
                  obtain ⟨h1, h2, h5⟩ := HFD.out
                  have hbA : Below Y.heap.size Y (w7.alloc (.cells #[.int .i64 x.1.rule, .int .i64 x.1.at_, .bool x.1.back, .slice A' x.1.wires.length d'] 27)) := hb7.alloc hs7 _
                  have o4 : (w1.setCell ⟨w.heap.size + 3, 0, none⟩ (.slice A6 (l.length + 1) c6)).heap[w.heap.size + 4]? = some (.cells #[.bool false] 4 (0, 0)) := (heap_setCell_other _ _ _ _ (by simp)).trans g4
                  have o3 : (w1.setCell ⟨w.heap.size + 3, 0, none⟩ (.slice A6 (l.length + 1) c6)).heap[w.heap.size + 3]? = some (.cells #[.slice A6 (l.length + 1) c6] 30 (0, 0)) := Boxed.set _ g3
                  have hblk : (w7.alloc (.cells #[.int .i64 x.1.rule, .int .i64 x.1.at_, .bool x.1.back, .slice A' x.1.wires.length d'] 27)).heap[w7.heap.size]? = some (.cells #[.int .i64 x.1.rule, .int .i64 x.1.at_, .bool x.1.back, .slice A' x.1.wires.length d'] 27 (0, 0)) := blk_alloc _ _ _ rfl
                  have hKp : Keep (ex1 w5.heap.size) w.heap.size Y ((w1.setCell ⟨w.heap.size + 3, 0, none⟩ (.slice A6 (l.length + 1) c6)).setCell ⟨w.heap.size + 4, 0, none⟩ (.bool true)) :=
                    (((Keep.of_below hbA (by omega)).trans (Keep.grown g2 (by simp; omega) fun r e => by
                      have hr : r = w7.heap.size := by simpa [Value.ownBlock] using e.symm
                      subst hr
                      refine ⟨by omega, fun cs' T' fz' h => ?_⟩
                      rw [hblk] at h
                      injection h with h
                      injection h with _ h
                      exact .inl (.inl h.symm))).trans (Keep.set _ g3 (.inl (.inr (.inl rfl))) (by omega))).trans (Keep.set _ o4 (.inr ⟨rfl, by omega⟩) (by omega))
                  have hYb : Below w.heap.size w Y := HBY.out
                  refine ⟨?_, hKp, rfl, x.1 :: l, _, ?_, fun D9 hD9 => ?_, (heap_setCell_other _ _ _ _ (by simp)).trans o3, ?_, Boxed.set _ o4, hYb.trans hKp.1⟩
                  · exact (keepsFrom_of (grown_of_below hbA none) (fun r e => by cases e)).trans ((keepsFrom_of g2 (fun j e => by
                      have hj : j = w7.heap.size := by simpa [Value.ownBlock] using e.symm
                      subst hj
                      exact ⟨_, _, hblk⟩)).trans (((KeepsOthers.setCell _ _ _).from _).trans ((KeepsOthers.setCell _ _ _).from _)))
                  · rw [List.findSome?_append, show pre.findSome? (fun x => (reachedL n x.2 d).map (x.1 :: ·)) = none from h1]
                    simp [HRL.out]
                  · have d0 := blk2 hbA (h2 D9 hD9)
                    have d1 : w1.heap[D9]? = some (Obj.deferred (some [])) := (g2.block _ (blk_lt d0) (fun e => by
                      have hr : D9 = w7.heap.size := by simpa [Value.ownBlock] using e
                      subst hr
                      rw [hblk] at d0
                      cases d0)).trans d0
                    exact deferred_set o4 (deferred_set g3 d1)
                  · have a1 := g1.setT (a := ⟨w.heap.size + 3, 0, none⟩) (u := .slice A6 (l.length + 1) c6) g3 (by decide) (EMo.setT g3 (by decide))
                    exact a1.setT (a := ⟨w.heap.size + 4, 0, none⟩) (u := .bool true) o4 (by decide) (EMo.setT o4 (by decide))
              case done =>
                rintro D9 Y hD ⟨h1, h2, h3, h4, h5⟩ hm
                have HE := Lib.hid (And.intro h1 (And.intro (MarksL.cons HM6.out.1 (HM6.out.1.same h2) hL6 hD hm) (And.intro h3 h4)))
                clear h1 h2 h3 h4 h5 hm
                gi_wp2_with fail
                refine ⟨⟨{ target := .collected D9, args := #[] } :: ds, t + 1, _, _, _, _, _, _, _, _, _, _, _, _, _, _, _, _, _, _, _, _, _, _, _, _, _, _, _, _, _, _, _, _, _, _, _, _, by omega, rfl, Lib.hid ⟨HE.out.2.1, HE.out.2.2.1, HE.out.2.2.2, HM5.out.2.2.2.next HBK.out (by unfold rG; rw [if_pos HFT.out]; exact HE.out.1)⟩⟩, ?_⟩
                simp [intOf]
                omega
              case stop =>
                rintro D9 ce pre Y hD hpre ⟨rfl, l, v, h2, h3, h4, h5, h6, h7⟩ hm
                have hsl : reachedL (n + 1) c d = some l := HFI.out.found hlt HBK.out HM5.out.2.2.2 HFT.out hpre h2
                have hm9 := MarksL.cons HM6.out.1 (HM6.out.1.same h3) hL6 hD hm
                have HE := Lib.hid (And.intro h4 (And.intro h5 (And.intro h6 (And.intro h7 (And.intro hm9 hsl)))))
                clear h2 h3 h4 h5 h6 h7 hm hm9 hsl hpre
                gi_wp2_with fail
                obtain ⟨h4, h5, h6, h7, hm9, hsl⟩ := HE.out
                refine leaves_marks (L := w.heap.size + 5) (I := fun Y => Y.heap[w.heap.size + 3]? = some (.cells #[v] 30 (0, 0)) ∧ App (EMo 3 w.heap.size) 27 4 w.heap.size Y v l ∧ Y.heap[w.heap.size + 4]? = some (.cells #[.bool true] 4 (0, 0)) ∧ Below w.heap.size w Y) ?_ ?_ _ Y hm9.1 hm9.2 ⟨h4, h5, h6, h7⟩
                · rintro s X Y row ⟨k2, k5, k3, k4⟩ hg hr
                  exact ⟨abide_block (L := w.heap.size + 5) (fun _ : Unit => _) (by omega) () X Y row k2 hg hr, k5.turn (EMo.bears _ _ (by decide)) (by decide) hg (fun r e => (hr r e).2), abide_block (L := w.heap.size + 5) (fun _ : Unit => _) (by omega) () X Y row k3 hg hr, abide_below (L := w.heap.size + 5) (by omega) (Nat.le_refl _) () X Y row k4 hg hr⟩
                · rintro w' ⟨k2, k5, k3, k4⟩
                  refine ⟨_, results_two rfl rfl rfl (by kernel_rfl) (by kernel_rfl) (Boxed.cell k2) (Boxed.cell k3), _, _, rfl, ?_, ?_, k4⟩
                  · rw [hsl]; rfl
                  · rw [hsl]; exact k5
          · have hge : ¬ (t : Int) < 2 := by omega
            gi_wp2_with fail
            refine ⟨⟨ds, i + 1, by omega, ⟨rfl, rfl⟩, Lib.hid ⟨HI.out.1, HI.out.2.1, HFI.out.next (by
              have h2t : t = 2 := by omega
              have := HI.out.2.2.2
              rw [h2t] at this
              exact this)⟩⟩, ?_⟩
            simp [intOf]
            omega
      · have hge : ¬ (i : Int) < 44 := by omega
        have e3 := Boxed.cell HI.out.2.1.2.2.2.1
        have e3' := Boxed.frozen HI.out.2.1.2.2.2.1
        have e4 := Boxed.cell HI.out.2.1.2.2.2.2.1
        have e4' := Boxed.frozen HI.out.2.1.2.2.2.2.1
        gi_wp2_with fail
        obtain ⟨h1, h2, h3⟩ := HI.out
        have hno : reachedL (n + 1) c d = none := by
          have h44 : i = 44 := by omega
          rw [h44] at h3
          exact h3.all
        have o3 : (W.setCell ⟨w.heap.size + 3, 0, none⟩ (.slice none 0 0)).heap[w.heap.size + 3]? = some (.cells #[.slice none 0 0] 30 (0, 0)) := Boxed.set _ h2.2.2.2.1
        have o4 : (W.setCell ⟨w.heap.size + 3, 0, none⟩ (.slice none 0 0)).heap[w.heap.size + 4]? = some (.cells #[.bool false] 4 (0, 0)) := (heap_setCell_other _ _ _ _ (by simp)).trans h2.2.2.2.2.1
        have hm9 : MarksL (w.heap.size + 5) ((W.setCell ⟨w.heap.size + 3, 0, none⟩ (.slice none 0 0)).setCell ⟨w.heap.size + 4, 0, none⟩ (.bool false)) ds := h1.same fun D hD => deferred_set o4 (deferred_set h2.2.2.2.1 hD)
        refine leaves_marks (L := w.heap.size + 5) (I := fun Y => Y.heap[w.heap.size + 3]? = some (.cells #[.slice none 0 0] 30 (0, 0)) ∧ Y.heap[w.heap.size + 4]? = some (.cells #[.bool false] 4 (0, 0)) ∧ Below w.heap.size w Y) ?_ ?_ ds _ hm9.1 hm9.2 ⟨(heap_setCell_other _ _ _ _ (by simp)).trans o3, Boxed.set _ o4, (h2.2.2.2.2.2.1.setCell (by simp) _).setCell (by simp) _⟩
        · rintro s X Y row ⟨k2, k3, k4⟩ hg hr
          exact ⟨abide_block (L := w.heap.size + 5) (fun _ : Unit => _) (by omega) () X Y row k2 hg hr, abide_block (L := w.heap.size + 5) (fun _ : Unit => _) (by omega) () X Y row k3 hg hr, abide_below (L := w.heap.size + 5) (by omega) (Nat.le_refl _) () X Y row k4 hg hr⟩
        · rintro w' ⟨k2, k3, k4⟩
          refine ⟨_, results_two rfl rfl rfl (by kernel_rfl) (by kernel_rfl) (Boxed.cell k2) (Boxed.cell k3), _, _, rfl, ?_, ?_, k4⟩
          · rw [hno]; rfl
          · rw [hno]; exact App.nil _ _ _ _ _
end Go.Proofs.YtfommmijojfdbaaGreatDoor
