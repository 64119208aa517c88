/- Part 36 of the proof that 'spoondriftlaw19.RulesApplies' holds for every input; it has no condition beyond the statement's own. -/
import Derived.Test.YtfommmijojfdbaaGreatDoorZ34
import Derived.Test.YtfommmijojfdbaaGreatDoorZ27
import Derived.Maps.Own
import Derived.Maps.Views
set_option linter.all false
namespace Go.Proofs.YtfommmijojfdbaaGreatDoor
open Go.RowKit Go.Shelf
attribute [local go_sem] Oper.semAt_some
theorem flatMap_le {α β : Type} (F : α → List β) (B : Nat) : ∀ (l : List α), (∀ x ∈ l, (F x).length ≤ B) → (l.flatMap F).length ≤ l.length * B
  | [], _ => by simp
  | x :: l, h => by
    rw [List.flatMap_cons, List.length_append, List.length_cons, Nat.succ_mul, Nat.add_comm]
    exact Nat.add_le_add (flatMap_le F B l fun y hy => h y (List.mem_cons_of_mem _ hy)) (h x List.mem_cons_self)
theorem chooseL_len {c : C} (hw : c.wires ≤ 12) (i : Nat) (back : Bool) (at_ : Nat) : ∀ (f k : Nat) (b : List Int), (chooseL c i back at_ f k b).length ≤ 12 ^ f
  | 0, k, b => by rw [chooseL_zero]; split <;> simp
  | f + 1, k, b => by
    rw [chooseL_succ]
    split
    · exact Nat.le_trans (chooseL_len hw i back at_ f (k + 1) b) (Nat.pow_le_pow_right (by omega) (by omega))
    · refine Nat.le_trans (flatMap_le _ (12 ^ f) _ fun w _ => ?_) ?_
      · split
        · simp
        · exact chooseL_len hw i back at_ f (k + 1) _
      · rw [List.length_range, Nat.pow_succ, Nat.mul_comm (12 ^ f)]
        exact Nat.mul_le_mul_right _ (by omega)
theorem stepsL_len {c : C} {i : Nat} {back : Bool} (hi : i < 44) (hG : Good c) : (stepsL c i back).length ≤ 1000000 := by
  obtain ⟨g1, g2, _⟩ := good_iff.1 hG
  have hw := (rule_ok i hi).2.2
  refine Nat.le_trans (flatMap_le _ 1728 _ fun at_ _ => ?_) (by rw [List.length_range]; omega)
  unfold atL
  split
  · simp
  · split
    · simp
    · refine Nat.le_trans (chooseL_len g1.2.1 i back at_ _ _ _) ?_
      have : (12 : Nat) ^ (ruleW i).toNat ≤ 12 ^ 3 := Nat.pow_le_pow_right (by omega) (by omega)
      omega
theorem fitN_fitB (i : Nat) (back : Bool) : fitN i back = fitB i back := by
  unfold fitN fitB
  by_cases h : i = 43
  · subst h; cases back <;> rfl
  · simp [h]
set_option maxRecDepth 1000000 in
set_option maxHeartbeats 8000000 in
theorem Steps_any (A : Option Addr) (k : Nat) (c : C) (rule : Int) (back : Bool) (w : World) (HT : Hid (Laid w)) (h : RdG w A c.gates) (hk : c.gates.length ≤ k) :
    Calls Tryz.prog 24 #[.agg #[.int .i64 c.wires, .int .i64 c.bits, .slice A c.gates.length k], .int .i64 rule, .bool back] w fun e w' => ∃ v, e = .returned (.tuple #[v, .int .i64 (StepsR c rule back).1]) ∧ App (EMo 3 w.heap.size) 27 4 w.heap.size w' v (StepsR c rule back).2 ∧ Below w.heap.size w w' := by
  have HH := Lib.hid h
  clear h
  obtain ⟨W1, hW1⟩ : ∃ W1, w.alloc (.cells #[.int .i64 c.wires, .int .i64 c.bits, .slice A c.gates.length k] 24) = W1 := ⟨_, rfl⟩
  have hb1 : Below w.heap.size w W1 := by rw [← hW1]; (repeat (first|exact bR _ _|assumption|apply bN|apply bA|apply bD))
  have p0 : W1.heap[w.heap.size]? = some (.cells #[.int .i64 c.wires, .int .i64 c.bits, .slice A c.gates.length k] 24 (0, 0)) := by rw [← hW1]; exact blk_alloc _ _ _ rfl
  have hz1 : w.heap.size + 1 ≤ W1.heap.size := by rw [← hW1]; simp
  have hpl := plain_any A k c W1 (HH.out.bG hb1)
  obtain ⟨a0, a1, a2, af⟩ := cells3 p0
  have HP := Lib.hid (And.intro p0 hb1)
  clear p0 hb1
  refine (callsIn_wide (n := 0)).1 (callsIn_of_wp_marks Tryz.func24 rfl trivial ?_ rfl)
  simp only [Tryz.ntmps24, List.size_toArray, List.length_cons, List.length_nil, Nat.reduceAdd, Nat.reduceSub, Array.replicate_succ, Array.replicate_zero, List.push_toArray, List.append_toArray, List.nil_append, List.cons_append]
  gi_wp2_with fail
  try rw [hW1]
  clear hW1
  refine ⟨trivial, rfl, CallsIn.mono (callsIn_wide.2 hpl) ?_⟩
  clear hpl a0 a1 a2 af
  rintro e w2 ⟨rfl, hb2⟩
  have hb02 := HP.out.2.trans (hb2.mono HP.out.2.size)
  have p2 := blk2 hb2 HP.out.1
  obtain ⟨a0, a1, a2, af⟩ := cells3 p2
  have hz2 := hb2.size
  have HP2 := Lib.hid (And.intro p2 hb02)
  clear p2 hb02 hb2
  obtain ⟨q, hq⟩ : ∃ q, plainE c = q := ⟨_, rfl⟩
  rw [hq]
  by_cases he : q = 0
  case neg =>
    have hne : (q != 0) = true := by simpa using he
    have HF := Lib.hid (show StepsR c rule back = (q, []) by unfold StepsR; rw [hq, if_pos he])
    clear hq he
    gi_wp2
    exact ⟨_, results_list (rs := [.tmp 6, .tmp 7]) rfl (by simp) (.tmp (.tmp .nil)), .slice none 0 0, by rw [HF.out]; rfl, by rw [HF.out]; exact App.nil _ _ _ _ _, HP2.out.2⟩
  subst he
  have HG := Lib.hid (plainE_good.1 hq)
  have HQ := Lib.hid hq
  clear hq
  by_cases h1 : rule < 0
  · have HF := Lib.hid (show StepsR c rule back = (1, []) by unfold StepsR; rw [if_neg (by rw [HQ.out]; simp), if_pos (.inl h1)])
    gi_wp2
    exact ⟨_, results_list (rs := [.tmp 6, .tmp 7]) rfl (by simp) (.tmp (.tmp .nil)), .slice none 0 0, by rw [HF.out]; rfl, by rw [HF.out]; exact App.nil _ _ _ _ _, HP2.out.2⟩
  by_cases h2 : 44 ≤ rule
  · have HF := Lib.hid (show StepsR c rule back = (1, []) by unfold StepsR; rw [if_neg (by rw [HQ.out]; simp), if_pos (.inr h2)])
    gi_wp2
    exact ⟨_, results_list (rs := [.tmp 6, .tmp 7]) rfl (by simp) (.tmp (.tmp .nil)), .slice none 0 0, by rw [HF.out]; rfl, by rw [HF.out]; exact App.nil _ _ _ _ _, HP2.out.2⟩
  obtain ⟨i, rfl⟩ : ∃ i : Nat, rule = (i : Int) := ⟨rule.toNat, by omega⟩
  have hi44 : i < 44 := by omega
  have h1b : decide ((i : Int) < 0) = false := by simp
  have h2b : decide (44 ≤ (i : Int)) = false := by simpa using h2
  have HF := Lib.hid (show StepsR c i back = if fitB i back = false then (7, []) else (0, (stepsL c i back).map Prod.fst) by unfold StepsR; rw [if_neg (by rw [HQ.out]; simp), if_neg (by omega), Int.toNat_natCast])
  clear h1 h2
  obtain ⟨fx, hfx, eg, hfit⟩ := fits_any i back
  rw [fitN_fitB] at hfit
  have HFX := Lib.hid (And.intro hfx hfit)
  have HLA := Lib.hid (HT.out.below HP2.out.2)
  clear hfx hfit
  gi_wp2_with fail
  refine ⟨trivial, rfl, CallsIn.mono (callsIn_wide.2 (ruled_any i hi44 w2 HLA)) ?_⟩
  rintro e w3 ⟨v1, v2, rfl, ho1, ho2, hb3⟩
  obtain ⟨A1, c1, rfl, _⟩ := ho1.form'
  obtain ⟨A2, c2, rfl, _⟩ := ho2.form'
  have HP3 := Lib.hid (And.intro (blk2 hb3 HP2.out.1) (HP2.out.2.trans (hb3.mono HP2.out.2.size)))
  have hz3 := hb3.size
  rw [HFX.out.1]
  have hfd : ∀ W : World, (Instr.field 88 (.agg #[.slice A1 (ruleL i).length c1, .slice A2 (ruleR i).length c2, .int .i64 (ruleW i), .int .i64 (ruleP i), .func (.func fx) #[] #[]]) 4).run Tryz.prog W = .ok (.func (.func fx) #[] #[]) W := fun W => by kernel_rfl
  clear ho1 ho2 hb3 a0 a1 a2 af
  gi_wp2_with fail
  refine ⟨trivial, rfl, CallsIn.mono (callsIn_wide.2 (HFX.out.2 w3)) ?_⟩
  rintro e w4 ⟨rfl, rfl⟩
  clear hfd eg
  obtain ⟨ft, hft⟩ : ∃ q, fitB i back = q := ⟨_, rfl⟩
  rw [hft]
  cases ft
  · have HF2 := Lib.hid (show StepsR c i back = (7, []) by rw [HF.out, hft]; rfl)
    clear hft
    gi_wp2
    exact ⟨_, results_list (rs := [.tmp 6, .tmp 7]) rfl (by simp) (.tmp (.tmp .nil)), .slice none 0 0, by rw [HF2.out]; rfl, by rw [HF2.out]; exact App.nil _ _ _ _ _, HP3.out.2⟩
  have HF2 := Lib.hid (show StepsR c i back = (0, (stepsL c i back).map Prod.fst) by rw [HF.out, hft]; rfl)
  have HFT := Lib.hid hft
  clear hft HF HFX
  obtain ⟨a0, a1, a2, af⟩ := cells3 HP3.out.1
  have hold := olds w3
  have l0 := blk_lt HP3.out.1
  gi_wp2_with fail
  obtain ⟨W4, hW4⟩ : ∃ W4, w3.alloc (.cells #[.slice none 0 0] 30) = W4 := ⟨_, rfl⟩
  try rw [hW4]
  have hb4 : Below w3.heap.size w3 W4 := by rw [← hW4]; (repeat (first|exact bR _ _|assumption|apply bN|apply bA|apply bD))
  have po : W4.heap[w3.heap.size]? = some (.cells #[.slice none 0 0] 30 (0, 0)) := by rw [← hW4]; exact blk_alloc _ _ _ rfl
  have hz4 : W4.heap.size = w3.heap.size + 1 := by rw [← hW4]; simp
  clear hW4
  refine ⟨trivial, rfl, CallsIn.mono (callsIn_wide.2 (steps_any A k c i back W4)) ?_⟩
  rintro e w5 ⟨rfl, hw5⟩
  have hb5 : Below W4.heap.size W4 w5 := by rw [hw5]; (repeat (first|exact bR _ _|assumption|apply bN|apply bA|apply bD))
  have hz5 : w5.heap.size = W4.heap.size + 3 := by rw [hw5]; simp
  have s0 : w5.heap[W4.heap.size]? = some (.cells #[.int .i64 c.wires, .int .i64 c.bits, .slice A c.gates.length k] 93 (0, 0)) := by rw [hw5]; exact alloc_old (alloc_old (blk_alloc _ _ _ rfl))
  have s1 : w5.heap[W4.heap.size + 1]? = some (.cells #[.int .i64 i] 3 (0, 0)) := by rw [hw5]; exact alloc_old (blk_alloc _ _ _ (by simp))
  have s2 : w5.heap[W4.heap.size + 2]? = some (.cells #[.bool back] 4 (0, 0)) := by rw [hw5]; exact blk_alloc _ _ _ (by simp)
  clear hw5
  have hb05 : Below w.heap.size w w5 := HP3.out.2.trans ((hb4.trans (hb5.mono hb4.size)).mono (by omega))
  have hit := steps1_iter w.heap.size W4.heap.size c A k i back w5 hi44 HFT.out HG.out hk (by omega) (by omega) s0 s1 s2 (fun W' hW' => ⟨HT.out.below (hb05.trans hW'.1), HH.out.bG (hb05.trans hW'.1)⟩)
  have po5 := blk2 hb5 po
  have HZ := Lib.hid (And.intro hz4 hz5)
  have hz35 : w3.heap.size < w5.heap.size := by omega
  have hz05 : w.heap.size < w3.heap.size := by omega
  clear hb4 po hb5 s0 s1 s2 hz4 hz5 a0 a1 a2 af hold
  gi_wp2_with fail
  refine rf_law (gf := 114) (lb := #[.pointer (some ⟨W4.heap.size + 1, 0, none⟩), .pointer (some ⟨W4.heap.size + 2, 0, none⟩), .pointer (some ⟨W4.heap.size, 0, none⟩)]) rfl (enters_of Tryz.func114 (by kernel_rfl) rfl) hit (fun h k => h.trans k)
    (fun W l o o' hl ho hL => Keep.put o' hl ho (by omega)) (fun _ _ _ ⟨_, _, h, _⟩ => by rw [h]; rfl)
    (fun pre W => ∃ v, W.heap[w3.heap.size]? = some (.cells #[v] 30 (0, 0)) ∧ App (EMo 3 w5.heap.size) 27 4 w5.heap.size W v (pre.map Prod.fst) ∧ Below w.heap.size w W ∧ w5.heap.size ≤ W.heap.size) (fun _ _ _ => False) ?hI (fun _ _ _ _ _ h _ _ => h) ?h0
    (fun x a' W => ∃ b A' d' v2, a' = { tmps := #[.agg #[.int .i64 c.wires, .int .i64 c.bits, .slice A c.gates.length k], .int .i64 i, .bool back, .pointer (some ⟨w.heap.size, 0, none⟩), undef, undef, .slice none 0 0, .int .i64 0, .int .i64 0, .pointer (some ⟨w3.heap.size, 0, none⟩), .pointer (some ⟨b, 0, none⟩), .agg #[.int .i64 c.wires, .int .i64 c.bits, .slice A c.gates.length k], .int .i64 0, .bool false, .int .i64 0, .bool false, undef, .bool false, .int .i64 i, .bool false, .bool false, .int .i64 i, .bool false, .bool false, .bool false, .int .i64 i, .agg #[.slice A1 (ruleL i).length c1, .slice A2 (ruleR i).length c2, .int .i64 (ruleW i), .int .i64 (ruleP i), .func (.func fx) #[] #[]], .func (.func fx) #[] #[], .bool back, .bool true, .bool false, .agg #[.int .i64 c.wires, .int .i64 c.bits, .slice A c.gates.length k], .agg #[.int .i64 c.wires, .int .i64 c.bits, .slice A c.gates.length k], .int .i64 i, .bool back, .func (.func 114) #[] #[.pointer (some ⟨W4.heap.size + 1, 0, none⟩), .pointer (some ⟨W4.heap.size + 2, 0, none⟩), .pointer (some ⟨W4.heap.size, 0, none⟩)], .agg #[.int .i64 x.1.rule, .int .i64 x.1.at_, .bool x.1.back, .slice A' x.1.wires.length d'], .agg #[.int .i64 x.2.wires, .int .i64 x.2.bits, v2], undef, undef, undef, undef, undef], defers := [] } ∧ w5.heap.size ≤ b ∧ W.heap[b]? = some (.cells #[.int .i64 x.1.rule, .int .i64 x.1.at_, .bool x.1.back, .slice A' x.1.wires.length d'] 27 (0, 0)) ∧ App EI 3 1 w5.heap.size W (.slice A' x.1.wires.length d') x.1.wires ∧ ∃ v, W.heap[w3.heap.size]? = some (.cells #[v] 30 (0, 0)) ∧ v.ownBlock ≠ some b) ?hAx ?assign ?body ?done (fun _ _ _ _ _ _ h _ => h.elim)
  case hI =>
    rintro s W W' row ⟨v, h1, h2, h3, h4⟩ hg hr
    exact ⟨v, abide_block (L := w5.heap.size) (fun _ : Unit => _) (by omega) () W W' row h1 hg hr, h2.turn (EMo.bears _ _ (by decide)) (by decide) hg (fun r e => (hr r e).2), abide_below (L := w5.heap.size) (by omega) (Nat.le_refl _) () W W' row h3 hg hr, Nat.le_trans h4 hg.size⟩
  case h0 => exact ⟨_, po5, App.nil _ _ _ _ _, hb05, Nat.le_refl _⟩
  case hAx =>
    rintro a' s W W' row ⟨b, A', d', v2, h1, h2, h3, h4, v, h6, h7⟩ hg hr
    refine ⟨b, A', d', v2, h1, h2, (hg.block b (Array.getElem?_eq_some_iff.1 h3).1 fun e => ?_).trans h3, h4.turn EI.bears (by decide) hg (fun r e => (hr r e).2), v, abide_block (L := w5.heap.size) (fun _ : Unit => _) (by omega) () W W' row h6 hg hr, h7⟩
    obtain ⟨o, ho, ht⟩ := (hr b e.symm).2
    rw [h3] at ho
    cases ho
    rcases ht with ht | ⟨q, hq⟩
    · cases ht
    · injection hq with _ h2'; exact absurd h2' (by decide)
  case assign =>
    rintro l0 pre x args W K ⟨v, h1, h2, h3, h4⟩ ⟨v1, v2, rfl, hx1, hx2⟩ hK
    obtain ⟨A', d', rfl, _⟩ := hx1.form
    have HI := Lib.hid (And.intro h1 (And.intro h2 (And.intro h3 h4)))
    have HX := Lib.hid hx1
    have HK := Lib.hid hK
    clear h1 h2 h3 h4 hx1 hx2 hK
    gi_wp2
    obtain ⟨h1, h2, h3, h4⟩ := HI.out
    have hga := fun o : Obj => World.grownBy_alloc W o none
    exact HK.out _ _ (keepsFrom_of (hga _) (fun r e => by cases e)) (Keep.alloc _ (by omega)) ⟨v, alloc_old h1, h2.turn (EMo.bears _ _ (by decide)) (by decide) (hga _) (fun r e => by cases e), below_alloc h3 _, by simp; omega⟩
      ⟨W.heap.size, A', d', v2, rfl, by omega, blk_alloc _ _ _ rfl, HX.out.alloc EI.stays _, v, alloc_old h1, h2.fresh⟩
  case body =>
    rintro l0 pre x a' W ⟨v, h1, h2, h3, h4⟩ ⟨b, A', d', v2, rfl, hbw, hbc, hx1, v', hv1, hv2⟩ hpre
    obtain rfl : v' = v := by rw [h1] at hv1; injection hv1 with e; injection e with e; simpa using e.symm
    have hpl : pre.length + 1 ≤ (stepsL c i back).length := by have := hpre.length_le; simpa using this
    have hpm : pre.length + 1 ≤ 1000000 := Nat.le_trans hpl (stepsL_len hi44 HG.out)
    obtain ⟨A8, c8, rfl, _⟩ := h2.form
    have hc9 := Boxed.cell h1
    obtain ⟨k0, k1, k2, k3, kf⟩ := cells4 hbc
    have hbl := blk_lt hbc
    have hnl := blk_lt h1
    have hn1 : (b = w3.heap.size) = False := by simp; omega
    have hn2 : (w3.heap.size = b) = False := by simp; omega
    have HI := Lib.hid (And.intro h1 (And.intro h2 (And.intro h3 (And.intro hbc hx1))))
    clear h1 h2 h3 hbc hx1
    dsimp only
    gi_wp2_with (gi_at_builtin; refine wpIn_app (E := EMo 3 w5.heap.size) (W := W) 27 4 w5.heap.size rfl _ _ 30 (.agg #[.int .i64 0, .int .i64 0, .bool false, .slice none 0 0]) 48 rfl Tryz.underlying30 (by kernel_rfl) rfl (by decide) (by decide) (.slice A8 (pre.map Prod.fst).length c8) (pre.map Prod.fst) x.1 [.int .i64 x.1.rule, .int .i64 x.1.at_, .bool x.1.back, .slice A' x.1.wires.length d'] (by show Value.slice A8 pre.length c8 = _; rw [List.length_map]) (by show Value.slice (some ⟨W.heap.size, 0, none⟩) 1 1 = _; simp) rfl (by simp [Value.oneCell']) ⟨_, rfl, HI.out.2.2.2.2⟩ HI.out.2.1 (by omega) (by simp; omega) (fun w1 n cs hown hg x1 cs1 ⟨v, e, hv⟩ => ⟨v, e, hv.other hown hg (by decide)⟩) ?_; intro v1 w1 ho hg; obtain ⟨A7, c7, rfl, _⟩ := ho.form; have hN9 : w1.heap[w3.heap.size]? = some (.cells #[.slice A8 (pre.map Prod.fst).length c8] 30 (0, 0)) := (hg.block _ (by omega) (fun e => by have := (app_cellsAt HI.out.2.1 e.symm).2; omega)).trans HI.out.1; have e9 := Boxed.cell hN9; have e10 := Boxed.frozen hN9; have HG7 := Lib.hid (And.intro ho (And.intro hg hN9)); clear ho hg hN9)
    obtain ⟨g1, g2, g3⟩ := HG7.out
    obtain ⟨x1, x2, x3, x4, x5⟩ := HI.out
    have hsg := g2.size
    refine ⟨?_, ?_, _, Boxed.set _ g3, ?_, ?_, ?_⟩
    · exact (keepsFrom_of g2 (fun j e => by obtain ⟨⟨cs, hc⟩, _⟩ := app_cellsAt x2 e; exact ⟨cs, _, hc⟩)).trans ((KeepsOthers.setCell _ _ _).from _)
    · refine (Keep.grown g2 (by omega) fun r e => ?_).trans (Keep.set _ g3 (.inl (.inr (.inl rfl))) (by omega))
      obtain ⟨⟨cs, hc⟩, hB⟩ := app_cellsAt x2 e
      refine ⟨by omega, fun cs' T' fz' h => ?_⟩
      rw [hc] at h
      injection h with h
      injection h with _ h
      exact .inl (.inl h.symm)
    · have := g1.setT (a := ⟨w3.heap.size, 0, none⟩) (u := .slice A7 (pre.length + 1) c7) g3 (by decide) (EMo.setT g3 (by decide))
      rw [List.map_append]
      simpa using this
    · exact (x2.grows g2 x3 (by omega) (by have := x3.size; omega)).setCell (by simp; omega) _
    · simp; omega
  case done =>
    rintro D W hD ⟨v, h1, h2, h3, h4⟩ hm
    obtain ⟨A8, c8, rfl, _⟩ := h2.form
    have hc8 := Boxed.cell h1
    have HE := Lib.hid (And.intro h2 (And.intro h3 hm))
    clear h1 h2 h3 hm
    dsimp only
    gi_wp2
    obtain ⟨h2, h3, hm⟩ := HE.out
    refine leaves_marks (L := w5.heap.size) (I := fun W => App (EMo 3 w5.heap.size) 27 4 w5.heap.size W (.slice A8 ((stepsL c i back).map Prod.fst).length c8) ((stepsL c i back).map Prod.fst) ∧ Below w.heap.size w W) ?_ ?_ _ W ⟨⟨D, rfl, hm, by simp⟩, trivial⟩ (by simp at hD ⊢; omega) ⟨h2, h3⟩
    · rintro s X Y row ⟨k2, k3⟩ hg hr
      exact ⟨k2.turn (EMo.bears _ _ (by decide)) (by decide) hg (fun r e => (hr r e).2), abide_below (L := w5.heap.size) (by omega) (Nat.le_refl _) () X Y row k3 hg hr⟩
    · rintro w' ⟨k2, k3⟩
      refine ⟨_, results_list (rs := [.tmp 6, .tmp 7]) rfl (by simp) (.tmp (.tmp .nil)), .slice A8 ((stepsL c i back).map Prod.fst).length c8, ?_, ?_, k3⟩
      · rw [HF2.out, List.length_map]; rfl
      · rw [HF2.out]
        exact k2.imp (by omega) fun x cs ⟨v, e1, e2⟩ => ⟨v, e1, e2.imp (by omega) fun _ _ h => h⟩
end Go.Proofs.YtfommmijojfdbaaGreatDoor
namespace Go.Proofs.YtfommmijojfdbaaGreatDoor
open Go.RowKit
set_option maxRecDepth 100000 in
set_option maxHeartbeats 4000000 in
theorem gate_lay (k : Int) (A : Option Addr) (n c : Nat) (w : World) :
    Calls Tryz.prog 37 #[.int .i64 k, .slice A n c] w fun e w' => e = .returned (.agg #[.int .i64 k, .slice A n c, .int .i64 0, .int .i64 0]) ∧ Below w.heap.size w w' := by
  go_enter Tryz.func37, Tryz.ntmps37
  go_upto_region 1 with fail
  obtain ⟨W1, hW1⟩ : ∃ W1, w.alloc (.cells #[.int .i64 0, .slice none 0 0, .int .i64 0, .int .i64 0] 55) = W1 := ⟨_, rfl⟩
  have hb1 : Below w.heap.size w W1 := by rw [← hW1]; (repeat (first|exact bR _ _|assumption|apply bN|apply bA|apply bD))
  have p0 : W1.heap[w.heap.size]? = some (.cells #[.int .i64 0, .slice none 0 0, .int .i64 0, .int .i64 0] 55 (0, 0)) := by rw [← hW1]; exact heap_alloc_new _ _
  rw [hW1]
  clear hW1
  obtain ⟨k0, k1, k2, k3, kf⟩ := cells4 p0
  have HP := Lib.hid (And.intro p0 hb1)
  clear p0 hb1
  go_wp2
  exact bodyPost_ret (results_cell_row rfl _ _ w.heap.size 55 _ _ _ rfl (set4 HP.out.1) Tryz.underlying55 rfl (by kernel_rfl)) rfl ⟨rfl, (((HP.out.2.setCell (by first|(simp;done)|(simp;omega)|omega) _).setCell (by first|(simp;done)|(simp;omega)|omega) _).setCell (by first|(simp;done)|(simp;omega)|omega) _).setCell (by first|(simp;done)|(simp;omega)|omega) _⟩
set_option maxRecDepth 100000 in
set_option maxHeartbeats 4000000 in
theorem on_lay (k : Int) (A : Option Addr) (n c : Nat) (w : World) :
    Calls Tryz.prog 36 #[.int .i64 k, .slice A n c] w fun e w' => e = .returned (.agg #[.int .i64 k, .int .i64 0, .slice A n c]) ∧ Below w.heap.size w w' := by
  go_enter Tryz.func36, Tryz.ntmps36
  go_upto_region 1 with fail
  obtain ⟨W1, hW1⟩ : ∃ W1, w.alloc (.cells #[.int .i64 0, .int .i64 0, .slice none 0 0] 24) = W1 := ⟨_, rfl⟩
  have hb1 : Below w.heap.size w W1 := by rw [← hW1]; (repeat (first|exact bR _ _|assumption|apply bN|apply bA|apply bD))
  have p0 : W1.heap[w.heap.size]? = some (.cells #[.int .i64 0, .int .i64 0, .slice none 0 0] 24 (0, 0)) := by rw [← hW1]; exact heap_alloc_new _ _
  rw [hW1]
  clear hW1
  obtain ⟨k0, k1, k2, kf⟩ := cells3 p0
  have HP := Lib.hid (And.intro p0 hb1)
  clear p0 hb1
  go_wp2
  exact bodyPost_ret (results_cell_row rfl _ _ w.heap.size 24 _ _ _ rfl (set3 HP.out.1) Tryz.underlying24 rfl (by kernel_rfl)) rfl ⟨rfl, ((HP.out.2.setCell (by first|(simp;done)|(simp;omega)|omega) _).setCell (by first|(simp;done)|(simp;omega)|omega) _).setCell (by first|(simp;done)|(simp;omega)|omega) _⟩
def LessMp (j b : Nat) (W : World) : Prop :=
  ∃ D : DataW Unit, W.ownsMap Tryz.prog 3 (plainElem Tryz.prog 4) b j D ∧ Maps.IsMap D ∧ ∀ i : Nat, i < j → D.atKey (.int .i64 i) (.lit (.bool false)) = .lit (.bool (lessB i))
theorem LessMp.same {j b : Nat} {W W' : World} (h : LessMp j b W) (e : W'.heap[b]? = W.heap[b]?) : LessMp j b W' := by
  obtain ⟨D, ⟨es, clock, hb, r⟩, h2⟩ := h
  exact ⟨D, ⟨es, clock, e.trans hb, r⟩, h2⟩
theorem LessMp.lt {j b : Nat} {W : World} (h : LessMp j b W) : b < W.heap.size := by
  obtain ⟨D, h1, _⟩ := h
  exact h1.lt
theorem key_nat (i : Nat) (h : i < 100) : keyOf Tryz.prog 3 (.int .i64 i) = some (.int .i64 i) :=
  Maps.keyOf_int_mk Tryz.underlying3 (by
    have h1 : IntKind.i64.min = -9223372036854775808 := by decide
    have h2 : IntKind.i64.max = 9223372036854775807 := by decide
    simp only [Lit.wf, h1, h2, Bool.and_eq_true, decide_eq_true_eq]
    omega)
theorem LessMp.look {b : Nat} {W : World} (h : LessMp 44 b W) {i : Nat} (hi : i < 44) : (Instr.lookup 101 (.map (some b)) (.int .i64 i) false).run Tryz.prog W = .ok (.bool (lessB i)) W := by
  obtain ⟨D, h1, _, h2⟩ := h
  have hz : (zeroValue 4).run Tryz.prog W = .ok (.bool false) W := by kernel_rfl
  obtain ⟨v, ps, hrun, hv⟩ := h1.lookup (Maps.int_keyed Tryz.underlying3) Tryz.underlying101 hz (plainElem_bool Tryz.underlying4 false) (key_nat i (by omega))
  rw [hrun]
  rw [h2 i hi] at hv
  have hu : Tryz.prog.underlying 4 = some .bool := Tryz.underlying4
  cases v <;> simp [plainElem, hu] at hv
  rw [hv.1]
theorem LessMp.put {j b : Nat} {W : World} (h : LessMp j b W) (hj : j < 44) : ∃ W', (Instr.mapUpdate 101 (.map (some b)) (.int .i64 j) (.bool (lessB j))).run Tryz.prog W = .ok () W' ∧ LessMp (j + 1) b W' ∧ W.grownBy W' (some b) := by
  obtain ⟨D, h1, h2, h3⟩ := h
  obtain ⟨W', hr, h4, h5⟩ := h1.update (Maps.int_keyed Tryz.underlying3) Tryz.underlying101 (by simp only [maxLen]; omega) (key_nat j (by omega)) (plainElem_bool Tryz.underlying4 (lessB j))
  refine ⟨W', hr, ⟨_, h4, h2.put _ _, fun i hi => ?_⟩, h5⟩
  by_cases e : i = j
  · subst e
    exact Maps.atKey_put_same h2 (by trivial) _ _
  · rw [Maps.atKey_put_other (by intro e'; injection e' with _ e'; omega)]
    exact h3 i (by omega)
set_option maxRecDepth 100000 in
set_option maxHeartbeats 4000000 in
theorem shorter_any (w : World) (HT : Hid (Laid w)) : Calls Tryz.prog 76 #[] w fun e w' => e = .returned (.map (some w.heap.size)) ∧ LessMp 44 w.heap.size w' ∧ Below w.heap.size w w' := by
  have hmm := @run_makeMap Tryz.prog
  go_enter Tryz.func76, Tryz.ntmps76
  go_upto_region 2 with fail
  obtain ⟨W1, hW1⟩ : ∃ W1, w.alloc (.map #[] 0) = W1 := ⟨_, rfl⟩
  have hb1 : Below w.heap.size w W1 := by rw [← hW1]; (repeat (first|exact bR _ _|assumption|apply bN|apply bA|apply bD))
  have hm1 : LessMp 0 w.heap.size W1 := by rw [← hW1]; exact ⟨_, World.ownsMap_made _ _ _ _, Maps.isMap_empty, fun i hi => absurd hi (by omega)⟩
  try rw [hW1]
  clear hW1
  have HS := Lib.hid (And.intro hm1 hb1)
  clear hm1 hb1 hmm
  go_wp2
  go_loopw [2, 3, 5] (fun _ _ iz wr => ∃ j : Nat, j ≤ 44 ∧ iz = .int .i64 j ∧ Hid (LessMp j w.heap.size wr ∧ Below w.heap.size w wr)) (fun _ _ iz _ => 44 - (intOf iz).toNat)
  case atStart => exact ⟨0, Nat.zero_le _, rfl, HS⟩
  case round =>
    clear HS
    obtain ⟨j, hj, rfl, HI⟩ := hrel
    by_cases hlt : j < 44
    · have hlti : (j : Int) < 44 := by omega
      have hru := ruled_any j hlt wr (Lib.hid (HT.out.below HI.out.2))
      obtain ⟨rw_, hrw⟩ : ∃ z, ruleW j = z := ⟨_, rfl⟩
      obtain ⟨rp, hrp⟩ : ∃ z, ruleP j = z := ⟨_, rfl⟩
      go_wp2_with fail
      refine hru.mono ?_
      clear hru
      rintro e w2 ⟨v1, v2, rfl, ho1, ho2, hb2⟩
      obtain ⟨A1, c1, rfl, _⟩ := ho1.form'
      obtain ⟨A2, c2, rfl, _⟩ := ho2.form'
      obtain ⟨fx, hfx⟩ : ∃ fx, fitsF j = .func (.func fx) #[] #[] := ⟨_, rfl⟩
      rw [hfx, hrw, hrp]
      have hm2 : LessMp j w.heap.size (w2.alloc (.cells #[.slice A1 (ruleL j).length c1, .slice A2 (ruleR j).length c2, .int .i64 rw_, .int .i64 rp, .func (.func fx) #[] #[]] 88)) :=
        HI.out.1.same ((Below.heap_alloc _ _ _ (by have := HI.out.1.lt; have := hb2.size; omega)).trans (hb2.block _ HI.out.1.lt))
      obtain ⟨W3, hrun, h3, hg3⟩ := hm2.put hlt
      unfold lessB at hrun
      have HE := Lib.hid (And.intro h3 (And.intro hg3 hb2))
      clear ho1 ho2 hb2 hfx hrw hrp hm2 h3 hg3
      go_wp2
      go_roundw
      case rel =>
        obtain ⟨h3, hg3, hb2⟩ := HE.out
        refine ⟨j + 1, by omega, by go_num, Lib.hid ⟨h3, ?_⟩⟩
        have hb3 := (HI.out.2.trans (hb2.mono HI.out.2.size)).alloc (by have := HI.out.2.size; have := hb2.size; omega) (.cells #[.slice A1 (ruleL j).length c1, .slice A2 (ruleR j).length c2, .int .i64 rw_, .int .i64 rp, .func (.func fx) #[] #[]] 88)
        exact hb3.grown hg3 hb3.size (fun r e => by cases e; exact Nat.le_refl _)
      case measure => simp [intOf]; omega
    · obtain rfl : j = 44 := by omega
      go_wp2
      go_ret
      exact ⟨rfl, HI.out.1, HI.out.2⟩
end Go.Proofs.YtfommmijojfdbaaGreatDoor
