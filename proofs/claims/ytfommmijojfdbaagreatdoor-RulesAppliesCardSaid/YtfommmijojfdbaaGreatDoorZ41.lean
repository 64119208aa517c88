/- Part 42 of the proof that 'spoondriftlaw19.RulesApplies' holds for every input; it has no condition beyond the statement's own. -/
import Derived.Test.YtfommmijojfdbaaGreatDoorZ36
import Derived.Test.YtfommmijojfdbaaGreatDoorZ40
import Derived.Test.YtfommmijojfdbaaGreatDoorZ34
set_option linter.all false
namespace Go.Proofs.YtfommmijojfdbaaGreatDoor
open Go.RowKit
def exM : List M := [⟨43, 0, false, []⟩, ⟨43, 1, false, []⟩]
def exI : List M := [⟨9, 0, true, [0, 1]⟩, ⟨33, 0, true, [0, 1]⟩]
def exF : List M := [⟨0, 2, true, [0]⟩, ⟨23, 0, false, [0]⟩]
theorem App.rdM {ti tm B B' : Nat} {w : World} {v : Value} {xs : List M} (h : App (EMo ti B) tm 4 B' w v xs) (hl : xs.length ≤ 35184372088832) (hw : ∀ s ∈ xs, s.wires.length ≤ 35184372088832) : ∃ A c, v = .slice A xs.length c ∧ xs.length ≤ c ∧ RdM w A xs := by
  obtain ⟨cs, ho, hr⟩ := h
  exact App.rd (E := EM) ⟨cs, ho, hr.1, fun j g hj => (hr.2 j g hj).rd (hw _ (List.mem_of_getElem? hj))⟩ hl
inductive Fact
  | bel (w : World)
  | g (A : Option Addr) (gs : List G)
  | m (A : Option Addr) (l : List M)
  | x (b : Nat) (row : Array Value) (T : TypeId)
def Fact.ok (W : World) : Fact → Prop
  | .bel w => Below w.heap.size w W
  | .g A gs => RdG W A gs
  | .m A l => RdM W A l
  | .x b row T => W.heap[b]? = some (.cells row T (0, 0))
theorem Fact.below {W W' : World} (hb : Below W.heap.size W W') : ∀ f : Fact, f.ok W → f.ok W'
  | .bel _, h => Below.trans h (hb.mono (Below.size h))
  | .g _ _, h => Rd.bG h hb
  | .m _ _, h => Rd.bM h hb
  | .x _ _ _, h => blk2 hb h
def AllF (W : World) (fs : List Fact) : Prop := ∀ (i : Nat) (f : Fact), fs[i]? = some f → f.ok W
theorem AllF.nil (W : World) : AllF W [] := fun i f h => by simp at h
theorem AllF.step {W W' : World} {fs : List Fact} (h : AllF W fs) (hb : Below W.heap.size W W') : AllF W' fs := fun i f hf => f.below hb (h i f hf)
theorem AllF.push {W : World} {fs : List Fact} (h : AllF W fs) (f : Fact) (hf : f.ok W) : AllF W (f :: fs) := fun i g hg => by
  rcases i with _ | i
  · cases hg; exact hf
  · exact h i g hg
theorem AllF.box {W : World} {fs : List Fact} (h : AllF W fs) (i : Nat) {b : Nat} {x0 x1 x2 : Value} {T : TypeId} (hi : fs[i]? = some (.x b #[x0, x1, x2] T)) :
    W.cell? ⟨b, 0, none⟩ = some x0 ∧ W.cell? ⟨b, 1, none⟩ = some x1 ∧ W.cell? ⟨b, 2, none⟩ = some x2 ∧ (∀ k, W.frozen? ⟨b, k, none⟩ = false) ∧ b < W.heap.size := by
  have hh : W.heap[b]? = some (.cells #[x0, x1, x2] T (0, 0)) := h i _ hi
  obtain ⟨h0, h1, h2, hf⟩ := cells3 hh
  exact ⟨h0, h1, h2, hf, blk_lt hh⟩
set_option maxRecDepth 1000000 in
set_option maxHeartbeats 8000000 in
theorem awake_any (w : World) (HT : Hid (Laid w)) : Calls Tryz.prog 15 #[] w fun e w' => e = .returned (.bool true) ∧ Below w.heap.size w w' := by
  go_enter Tryz.func15, Tryz.ntmps15
  go_wp2_with fail
  refine (chain_any w).mono ?_
  rintro e W0 ⟨A, B, rfl, hg, hm, hb⟩
  have HF := Lib.hid (((AllF.nil W0).push (.bel w) hb).push (.g A exC.gates) hg |>.push (.m B exL) hm)
  clear hb hg hm
  have hold := olds W0
  go_wp2_with fail
  clear hold
  obtain ⟨V1, hV⟩ : ∃ V, (W0).alloc (.cells #[.int .i64 2, .int .i64 0, .slice A 4 4] 24) = V := ⟨_, rfl⟩
  try rw [hV]
  have hb : Below W0.heap.size W0 V1 := by rw [← hV]; (repeat (first|exact bR _ _|assumption|apply bN|apply bA|apply bD))
  have x0 : V1.heap[W0.heap.size]? = some (.cells #[.int .i64 2, .int .i64 0, .slice A 4 4] 24 (0, 0)) := by rw [← hV]; exact blk_alloc _ _ _ rfl
  clear hV
  replace HF := Lib.hid (HF.out.step hb)
  replace HF := Lib.hid (HF.out.push (.x (W0.heap.size) #[.int .i64 2, .int .i64 0, .slice A 4 4] 24) x0)
  clear hb x0
  have hc := Shorten_any A 4 exC V1 (Lib.hid (HT.out.below (show Below w.heap.size w V1 from HF.out 3 _ rfl))) (show RdG V1 (A) exC.gates from HF.out 2 _ rfl) (by decide)
  rw [ex_shorten] at hc
  refine hc.mono ?_
  clear hc
  rintro e W2 ⟨v, rfl, ho, hb⟩
  obtain ⟨A2, c2, rfl, _, hm⟩ := ho.rdM (by decide) (by decide)
  replace HF := Lib.hid (HF.out.step hb)
  replace HF := Lib.hid (HF.out.push (.m (A2) exL) hm)
  clear ho hb hm
  obtain ⟨k00, k01, k02, k0f, lk0⟩ := HF.out.box 1 rfl
  have hold := olds W2
  go_wp2_with fail
  clear k00 k01 k02 k0f lk0
  clear hold
  have hc := Follow_any A B 4 2 exC exL W2 (Lib.hid (HT.out.below (show Below w.heap.size w W2 from HF.out 4 _ rfl))) (show RdG W2 (A) exC.gates from HF.out 3 _ rfl) (by decide) (show RdM W2 (B) exL from HF.out 2 _ rfl)
  rw [ex_follow] at hc
  refine hc.mono ?_
  clear hc
  rintro e W3 ⟨v, rfl, ho, hb⟩
  dsimp only at ho ⊢
  obtain ⟨A3, c3, rfl, _⟩ := ho.form'
  simp only [List.length_nil]
  replace HF := Lib.hid (HF.out.step hb)
  clear ho hb
  have hold := olds W3
  go_wp2_with fail
  clear hold
  obtain ⟨V4, hV⟩ : ∃ V, ((W3).alloc (.cells #[.int .i64 2, .int .i64 0, .slice A3 0 c3] 24)).alloc (.cells #[.int .i64 0] 3) = V := ⟨_, rfl⟩
  try rw [hV]
  have hb : Below W3.heap.size W3 V4 := by rw [← hV]; (repeat (first|exact bR _ _|assumption|apply bN|apply bA|apply bD))
  have x0 : V4.heap[W3.heap.size]? = some (.cells #[.int .i64 2, .int .i64 0, .slice A3 0 c3] 24 (0, 0)) := by rw [← hV]; exact alloc_old (blk_alloc _ _ _ rfl)
  have x1 : V4.heap[W3.heap.size + 1]? = some (.cells #[.int .i64 0] 3 (0, 0)) := by rw [← hV]; exact blk_alloc _ _ _ (by simp)
  clear hV
  replace HF := Lib.hid (HF.out.step hb)
  replace HF := Lib.hid (HF.out.push (.x (W3.heap.size) #[.int .i64 2, .int .i64 0, .slice A3 0 c3] 24) x0)
  replace HF := Lib.hid (HF.out.push (.x (W3.heap.size + 1) #[.int .i64 0] 3) x1)
  clear hb x0 x1
  refine (gate_lay _ _ _ _ _).mono ?_
  rintro e W5 ⟨rfl, hb⟩
  replace HF := Lib.hid (HF.out.step hb)
  clear hb
  have hold := olds W5
  go_wp2_with fail
  clear hold
  obtain ⟨V6, hV⟩ : ∃ V, (W5).alloc (.cells #[.int .i64 0] 3) = V := ⟨_, rfl⟩
  try rw [hV]
  have hb : Below W5.heap.size W5 V6 := by rw [← hV]; (repeat (first|exact bR _ _|assumption|apply bN|apply bA|apply bD))
  have x0 : V6.heap[W5.heap.size]? = some (.cells #[.int .i64 0] 3 (0, 0)) := by rw [← hV]; exact blk_alloc _ _ _ rfl
  clear hV
  replace HF := Lib.hid (HF.out.step hb)
  replace HF := Lib.hid (HF.out.push (.x (W5.heap.size) #[.int .i64 0] 3) x0)
  clear hb x0
  refine (gate_lay _ _ _ _ _).mono ?_
  rintro e W7 ⟨rfl, hb⟩
  replace HF := Lib.hid (HF.out.step hb)
  clear hb
  have hold := olds W7
  go_wp2_with fail
  clear hold
  obtain ⟨V8, hV⟩ : ∃ V, (W7).alloc (.cells #[.int .i64 0] 3) = V := ⟨_, rfl⟩
  try rw [hV]
  have hb : Below W7.heap.size W7 V8 := by rw [← hV]; (repeat (first|exact bR _ _|assumption|apply bN|apply bA|apply bD))
  have x0 : V8.heap[W7.heap.size]? = some (.cells #[.int .i64 0] 3 (0, 0)) := by rw [← hV]; exact blk_alloc _ _ _ rfl
  clear hV
  replace HF := Lib.hid (HF.out.step hb)
  replace HF := Lib.hid (HF.out.push (.x (W7.heap.size) #[.int .i64 0] 3) x0)
  clear hb x0
  refine (gate_lay _ _ _ _ _).mono ?_
  rintro e W9 ⟨rfl, hb⟩
  replace HF := Lib.hid (HF.out.step hb)
  clear hb
  have hold := olds W9
  go_wp2_with fail
  clear hold
  obtain ⟨V10, hV⟩ : ∃ V, (W9).alloc (.cells #[.int .i64 1, .slice (some ⟨W3.heap.size + 1, 0, none⟩) 1 1, .int .i64 0, .int .i64 0, .int .i64 7, .slice (some ⟨W5.heap.size, 0, none⟩) 1 1, .int .i64 0, .int .i64 0, .int .i64 1, .slice (some ⟨W7.heap.size, 0, none⟩) 1 1, .int .i64 0, .int .i64 0] 55) = V := ⟨_, rfl⟩
  try rw [hV]
  have hb : Below W9.heap.size W9 V10 := by rw [← hV]; (repeat (first|exact bR _ _|assumption|apply bN|apply bA|apply bD))
  have x0 : V10.heap[W9.heap.size]? = some (.cells #[.int .i64 1, .slice (some ⟨W3.heap.size + 1, 0, none⟩) 1 1, .int .i64 0, .int .i64 0, .int .i64 7, .slice (some ⟨W5.heap.size, 0, none⟩) 1 1, .int .i64 0, .int .i64 0, .int .i64 1, .slice (some ⟨W7.heap.size, 0, none⟩) 1 1, .int .i64 0, .int .i64 0] 55 (0, 0)) := by rw [← hV]; exact blk_alloc _ _ _ rfl
  clear hV
  replace HF := Lib.hid (HF.out.step hb)
  replace HF := Lib.hid (HF.out.push (.x (W9.heap.size) #[.int .i64 1, .slice (some ⟨W3.heap.size + 1, 0, none⟩) 1 1, .int .i64 0, .int .i64 0, .int .i64 7, .slice (some ⟨W5.heap.size, 0, none⟩) 1 1, .int .i64 0, .int .i64 0, .int .i64 1, .slice (some ⟨W7.heap.size, 0, none⟩) 1 1, .int .i64 0, .int .i64 0] 55) x0)
  clear hb x0
  refine (on_lay _ _ _ _ _).mono ?_
  rintro e W11 ⟨rfl, hb⟩
  replace HF := Lib.hid (HF.out.step hb)
  clear hb
  have hg : RdG W11 (some ⟨W9.heap.size, 0, none⟩) exX.gates := by
    refine Rd.blk [[.int .i64 1, .slice (some ⟨W3.heap.size + 1, 0, none⟩) 1 1, .int .i64 0, .int .i64 0], [.int .i64 7, .slice (some ⟨W5.heap.size, 0, none⟩) 1 1, .int .i64 0, .int .i64 0], [.int .i64 1, .slice (some ⟨W7.heap.size, 0, none⟩) 1 1, .int .i64 0, .int .i64 0]] (show W11.heap[W9.heap.size]? = some (.cells #[.int .i64 1, .slice (some ⟨W3.heap.size + 1, 0, none⟩) 1 1, .int .i64 0, .int .i64 0, .int .i64 7, .slice (some ⟨W5.heap.size, 0, none⟩) 1 1, .int .i64 0, .int .i64 0, .int .i64 1, .slice (some ⟨W7.heap.size, 0, none⟩) 1 1, .int .i64 0, .int .i64 0] 55 (0, 0)) from HF.out 0 _ rfl) rfl (by decide) rfl (by simp) fun k x cs hx hc => ?_
    rcases k with _ | _ | _ | k
    · cases hx; cases hc; exact ⟨_, _, rfl, Nat.le_refl _, RdI.blk [0] (show W11.heap[W3.heap.size + 1]? = some (.cells #[.int .i64 0] 3 (0, 0)) from HF.out 3 _ rfl) rfl (by decide)⟩
    · cases hx; cases hc; exact ⟨_, _, rfl, Nat.le_refl _, RdI.blk [0] (show W11.heap[W5.heap.size]? = some (.cells #[.int .i64 0] 3 (0, 0)) from HF.out 2 _ rfl) rfl (by decide)⟩
    · cases hx; cases hc; exact ⟨_, _, rfl, Nat.le_refl _, RdI.blk [0] (show W11.heap[W7.heap.size]? = some (.cells #[.int .i64 0] 3 (0, 0)) from HF.out 1 _ rfl) rfl (by decide)⟩
    · simp at hc
  replace HF := Lib.hid (HF.out.push (.g ((some ⟨W9.heap.size, 0, none⟩)) exX.gates) hg)
  clear hg
  have hold := olds W11
  go_wp2_with fail
  clear hold
  obtain ⟨V12, hV⟩ : ∃ V, ((W11).alloc (.cells #[.int .i64 1, .int .i64 0, .slice (some ⟨W9.heap.size, 0, none⟩) 3 3] 24)).alloc (.cells #[.int .i64 0] 3) = V := ⟨_, rfl⟩
  try rw [hV]
  have hb : Below W11.heap.size W11 V12 := by rw [← hV]; (repeat (first|exact bR _ _|assumption|apply bN|apply bA|apply bD))
  have x0 : V12.heap[W11.heap.size]? = some (.cells #[.int .i64 1, .int .i64 0, .slice (some ⟨W9.heap.size, 0, none⟩) 3 3] 24 (0, 0)) := by rw [← hV]; exact alloc_old (blk_alloc _ _ _ rfl)
  have x1 : V12.heap[W11.heap.size + 1]? = some (.cells #[.int .i64 0] 3 (0, 0)) := by rw [← hV]; exact blk_alloc _ _ _ (by simp)
  clear hV
  replace HF := Lib.hid (HF.out.step hb)
  replace HF := Lib.hid (HF.out.push (.x (W11.heap.size) #[.int .i64 1, .int .i64 0, .slice (some ⟨W9.heap.size, 0, none⟩) 3 3] 24) x0)
  replace HF := Lib.hid (HF.out.push (.x (W11.heap.size + 1) #[.int .i64 0] 3) x1)
  clear hb x0 x1
  have hc := Apply_any (some ⟨W9.heap.size, 0, none⟩) (some ⟨W11.heap.size + 1, 0, none⟩) 3 1 exX ⟨26, 0, false, [0]⟩ V12 (Lib.hid (HT.out.below (show Below w.heap.size w V12 from HF.out 12 _ rfl))) (show RdG V12 ((some ⟨W9.heap.size, 0, none⟩)) exX.gates from HF.out 2 _ rfl) (by decide) (RdI.blk [0] (show V12.heap[W11.heap.size + 1]? = some (.cells #[.int .i64 0] 3 (0, 0)) from HF.out 0 _ rfl) rfl (by decide))
  rw [ex_apply] at hc
  refine hc.mono ?_
  clear hc
  rintro e W13 ⟨v, rfl, ho, hb⟩
  dsimp only at ho ⊢
  obtain ⟨A8, c8, rfl, _, hg⟩ := ho.rd (by decide) (by decide)
  simp only [exY, exX, List.length_cons, List.length_nil, Nat.reduceAdd, Nat.zero_add]
  replace HF := Lib.hid (HF.out.step hb)
  replace HF := Lib.hid (HF.out.push (.g (A8) exY.gates) hg)
  clear ho hb hg
  have hold := olds W13
  go_wp2_with fail
  clear hold
  obtain ⟨V14, hV⟩ : ∃ V, ((W13).alloc (.cells #[.int .i64 1, .int .i64 0, .slice A8 1 c8] 24)).alloc (.cells #[.int .i64 0] 3) = V := ⟨_, rfl⟩
  try rw [hV]
  have hb : Below W13.heap.size W13 V14 := by rw [← hV]; (repeat (first|exact bR _ _|assumption|apply bN|apply bA|apply bD))
  have x0 : V14.heap[W13.heap.size]? = some (.cells #[.int .i64 1, .int .i64 0, .slice A8 1 c8] 24 (0, 0)) := by rw [← hV]; exact alloc_old (blk_alloc _ _ _ rfl)
  have x1 : V14.heap[W13.heap.size + 1]? = some (.cells #[.int .i64 0] 3 (0, 0)) := by rw [← hV]; exact blk_alloc _ _ _ (by simp)
  clear hV
  replace HF := Lib.hid (HF.out.step hb)
  replace HF := Lib.hid (HF.out.push (.x (W13.heap.size) #[.int .i64 1, .int .i64 0, .slice A8 1 c8] 24) x0)
  replace HF := Lib.hid (HF.out.push (.x (W13.heap.size + 1) #[.int .i64 0] 3) x1)
  clear hb x0 x1
  have hc := Apply_any A8 (some ⟨W13.heap.size + 1, 0, none⟩) c8 1 exY ⟨26, 0, true, [0]⟩ V14 (Lib.hid (HT.out.below (show Below w.heap.size w V14 from HF.out 15 _ rfl))) (show RdG V14 (A8) exY.gates from HF.out 2 _ rfl) (by assumption) (RdI.blk [0] (show V14.heap[W13.heap.size + 1]? = some (.cells #[.int .i64 0] 3 (0, 0)) from HF.out 0 _ rfl) rfl (by decide))
  rw [ex_back] at hc
  refine hc.mono ?_
  clear hc
  rintro e W15 ⟨v, rfl, ho, hb⟩
  dsimp only at ho ⊢
  obtain ⟨A9, c9, rfl, _, hg⟩ := ho.rd (by decide) (by decide)
  simp only [exY, exX, List.length_cons, List.length_nil, Nat.reduceAdd, Nat.zero_add]
  replace HF := Lib.hid (HF.out.step hb)
  replace HF := Lib.hid (HF.out.push (.g (A9) exX.gates) hg)
  clear ho hb hg
  have hold := olds W15
  go_wp2_with fail
  clear hold
  obtain ⟨V16, hV⟩ : ∃ V, ((W15).alloc (.cells #[.int .i64 1, .int .i64 0, .slice A9 3 c9] 24)).alloc (.cells #[.int .i64 0] 3) = V := ⟨_, rfl⟩
  try rw [hV]
  have hb : Below W15.heap.size W15 V16 := by rw [← hV]; (repeat (first|exact bR _ _|assumption|apply bN|apply bA|apply bD))
  have x0 : V16.heap[W15.heap.size]? = some (.cells #[.int .i64 1, .int .i64 0, .slice A9 3 c9] 24 (0, 0)) := by rw [← hV]; exact alloc_old (blk_alloc _ _ _ rfl)
  have x1 : V16.heap[W15.heap.size + 1]? = some (.cells #[.int .i64 0] 3 (0, 0)) := by rw [← hV]; exact blk_alloc _ _ _ (by simp)
  clear hV
  replace HF := Lib.hid (HF.out.step hb)
  replace HF := Lib.hid (HF.out.push (.x (W15.heap.size) #[.int .i64 1, .int .i64 0, .slice A9 3 c9] 24) x0)
  replace HF := Lib.hid (HF.out.push (.x (W15.heap.size + 1) #[.int .i64 0] 3) x1)
  clear hb x0 x1
  refine (gate_lay _ _ _ _ _).mono ?_
  rintro e W17 ⟨rfl, hb⟩
  replace HF := Lib.hid (HF.out.step hb)
  clear hb
  have hold := olds W17
  go_wp2_with fail
  clear hold
  obtain ⟨V18, hV⟩ : ∃ V, (W17).alloc (.cells #[.int .i64 1] 3) = V := ⟨_, rfl⟩
  try rw [hV]
  have hb : Below W17.heap.size W17 V18 := by rw [← hV]; (repeat (first|exact bR _ _|assumption|apply bN|apply bA|apply bD))
  have x0 : V18.heap[W17.heap.size]? = some (.cells #[.int .i64 1] 3 (0, 0)) := by rw [← hV]; exact blk_alloc _ _ _ rfl
  clear hV
  replace HF := Lib.hid (HF.out.step hb)
  replace HF := Lib.hid (HF.out.push (.x (W17.heap.size) #[.int .i64 1] 3) x0)
  clear hb x0
  refine (gate_lay _ _ _ _ _).mono ?_
  rintro e W19 ⟨rfl, hb⟩
  replace HF := Lib.hid (HF.out.step hb)
  clear hb
  have hold := olds W19
  go_wp2_with fail
  clear hold
  obtain ⟨V20, hV⟩ : ∃ V, (W19).alloc (.cells #[.int .i64 0] 3) = V := ⟨_, rfl⟩
  try rw [hV]
  have hb : Below W19.heap.size W19 V20 := by rw [← hV]; (repeat (first|exact bR _ _|assumption|apply bN|apply bA|apply bD))
  have x0 : V20.heap[W19.heap.size]? = some (.cells #[.int .i64 0] 3 (0, 0)) := by rw [← hV]; exact blk_alloc _ _ _ rfl
  clear hV
  replace HF := Lib.hid (HF.out.step hb)
  replace HF := Lib.hid (HF.out.push (.x (W19.heap.size) #[.int .i64 0] 3) x0)
  clear hb x0
  refine (gate_lay _ _ _ _ _).mono ?_
  rintro e W21 ⟨rfl, hb⟩
  replace HF := Lib.hid (HF.out.step hb)
  clear hb
  have hold := olds W21
  go_wp2_with fail
  clear hold
  obtain ⟨V22, hV⟩ : ∃ V, (W21).alloc (.cells #[.int .i64 7, .slice (some ⟨W15.heap.size + 1, 0, none⟩) 1 1, .int .i64 0, .int .i64 0, .int .i64 1, .slice (some ⟨W17.heap.size, 0, none⟩) 1 1, .int .i64 0, .int .i64 0, .int .i64 7, .slice (some ⟨W19.heap.size, 0, none⟩) 1 1, .int .i64 0, .int .i64 0] 55) = V := ⟨_, rfl⟩
  try rw [hV]
  have hb : Below W21.heap.size W21 V22 := by rw [← hV]; (repeat (first|exact bR _ _|assumption|apply bN|apply bA|apply bD))
  have x0 : V22.heap[W21.heap.size]? = some (.cells #[.int .i64 7, .slice (some ⟨W15.heap.size + 1, 0, none⟩) 1 1, .int .i64 0, .int .i64 0, .int .i64 1, .slice (some ⟨W17.heap.size, 0, none⟩) 1 1, .int .i64 0, .int .i64 0, .int .i64 7, .slice (some ⟨W19.heap.size, 0, none⟩) 1 1, .int .i64 0, .int .i64 0] 55 (0, 0)) := by rw [← hV]; exact blk_alloc _ _ _ rfl
  clear hV
  replace HF := Lib.hid (HF.out.step hb)
  replace HF := Lib.hid (HF.out.push (.x (W21.heap.size) #[.int .i64 7, .slice (some ⟨W15.heap.size + 1, 0, none⟩) 1 1, .int .i64 0, .int .i64 0, .int .i64 1, .slice (some ⟨W17.heap.size, 0, none⟩) 1 1, .int .i64 0, .int .i64 0, .int .i64 7, .slice (some ⟨W19.heap.size, 0, none⟩) 1 1, .int .i64 0, .int .i64 0] 55) x0)
  clear hb x0
  refine (on_lay _ _ _ _ _).mono ?_
  rintro e W23 ⟨rfl, hb⟩
  replace HF := Lib.hid (HF.out.step hb)
  clear hb
  have hg : RdG W23 (some ⟨W21.heap.size, 0, none⟩) exT.gates := by
    refine Rd.blk [[.int .i64 7, .slice (some ⟨W15.heap.size + 1, 0, none⟩) 1 1, .int .i64 0, .int .i64 0], [.int .i64 1, .slice (some ⟨W17.heap.size, 0, none⟩) 1 1, .int .i64 0, .int .i64 0], [.int .i64 7, .slice (some ⟨W19.heap.size, 0, none⟩) 1 1, .int .i64 0, .int .i64 0]] (show W23.heap[W21.heap.size]? = some (.cells #[.int .i64 7, .slice (some ⟨W15.heap.size + 1, 0, none⟩) 1 1, .int .i64 0, .int .i64 0, .int .i64 1, .slice (some ⟨W17.heap.size, 0, none⟩) 1 1, .int .i64 0, .int .i64 0, .int .i64 7, .slice (some ⟨W19.heap.size, 0, none⟩) 1 1, .int .i64 0, .int .i64 0] 55 (0, 0)) from HF.out 0 _ rfl) rfl (by decide) rfl (by simp) fun k x cs hx hc => ?_
    rcases k with _ | _ | _ | k
    · cases hx; cases hc; exact ⟨_, _, rfl, Nat.le_refl _, RdI.blk [0] (show W23.heap[W15.heap.size + 1]? = some (.cells #[.int .i64 0] 3 (0, 0)) from HF.out 3 _ rfl) rfl (by decide)⟩
    · cases hx; cases hc; exact ⟨_, _, rfl, Nat.le_refl _, RdI.blk [1] (show W23.heap[W17.heap.size]? = some (.cells #[.int .i64 1] 3 (0, 0)) from HF.out 2 _ rfl) rfl (by decide)⟩
    · cases hx; cases hc; exact ⟨_, _, rfl, Nat.le_refl _, RdI.blk [0] (show W23.heap[W19.heap.size]? = some (.cells #[.int .i64 0] 3 (0, 0)) from HF.out 1 _ rfl) rfl (by decide)⟩
    · simp at hc
  replace HF := Lib.hid (HF.out.push (.g ((some ⟨W21.heap.size, 0, none⟩)) exT.gates) hg)
  clear hg
  have hold := olds W23
  go_wp2_with fail
  clear hold
  have hc := Steps_any (some ⟨W21.heap.size, 0, none⟩) 3 exT 43 false W23 (Lib.hid (HT.out.below (show Below w.heap.size w W23 from HF.out 22 _ rfl))) (show RdG W23 ((some ⟨W21.heap.size, 0, none⟩)) exT.gates from HF.out 0 _ rfl) (by decide)
  rw [ex_steps] at hc
  refine hc.mono ?_
  clear hc
  rintro e W24 ⟨v, rfl, ho, hb⟩
  obtain ⟨A10, c10, rfl, _, hm⟩ := ho.rdM (by decide) (by decide)
  replace HF := Lib.hid (HF.out.step hb)
  replace HF := Lib.hid (HF.out.push (.m (A10) exM) hm)
  clear ho hb hm
  obtain ⟨k00, k01, k02, k0f, lk0⟩ := HF.out.box 20 rfl
  have hold := olds W24
  go_upto_region 8 with fail
  refine wp_region_sg (by kernel_rfl) [0, 1, 2, 3, 4, 5, 6, 7, 8] (by kernel_rfl) (by kernel_rfl) (by kernel_rfl) ?_
  refine SG.l (v := ?v2_8_0) rfl rfl rfl ?h2_8_0 ?r2_8_0
  case h2_8_0 => (first|(go_simp;done)|(go_simp;with_reducible rfl))
  simp only [Act.put, pA, pB, pC]
  refine SG.p (v := ?v2_8_1) rfl rfl rfl (fun W => ?h2_8_1) ?r2_8_1
  case h2_8_1 => (first|(go_simp;done)|(go_simp;with_reducible rfl))
  simp only [Act.put, pA, pB, pC]
  refine SG.c rfl rfl rfl (by first|(go_simp;done)|(go_simp;with_reducible rfl)|(go_simp;exact ⟨⟨rfl, rfl⟩, rfl⟩)) ?_
  refine (on_lay _ _ _ _ _).mono ?_
  rintro e W25 ⟨rfl, hb⟩
  have hb' : Below W24.heap.size W24 W25 := Below.trans (b := _) (by (repeat (first|exact bR _ _|assumption|apply bN|apply bA|apply bD))) hb
  replace HF := Lib.hid (HF.out.step hb')
  clear k00 k01 k02 k0f lk0 hold hb hb'
  obtain ⟨k00, k01, k02, k0f, lk0⟩ := HF.out.box 20 rfl
  have hold := olds W25
  refine ⟨_, rfl, ?_, ?_⟩
  · exact ⟨(fun _ => ⟨_, drop_at rfl, by (first|(go_simp;done)|(go_simp;with_reducible rfl))⟩), trivial⟩
  simp only [Act.put, pA, pB, pC]
  refine SG.c rfl rfl rfl (by first|(go_simp;done)|(go_simp;with_reducible rfl)|(go_simp;exact ⟨⟨rfl, rfl⟩, rfl⟩)) ?_
  have hc := rCheck_any A B none 4 2 0 exC ⟨2, 0, []⟩ exL W25 (Lib.hid (HT.out.below (show Below w.heap.size w W25 from HF.out 23 _ rfl))) (show RdG W25 (A) exC.gates from HF.out 22 _ rfl) (by decide) (show RdM W25 (B) exL from HF.out 21 _ rfl) (Rd.nil _ _ _ _)
  rw [ex_check] at hc
  refine hc.mono ?_
  clear hc
  rintro e W26 ⟨rfl, hb⟩
  replace HF := Lib.hid (HF.out.step hb)
  clear k00 k01 k02 k0f lk0 hold hb
  obtain ⟨k00, k01, k02, k0f, lk0⟩ := HF.out.box 20 rfl
  have hold := olds W26
  dsimp only
  refine ⟨_, rfl, ?_, ?_⟩
  · exact ⟨(nw (by kernel_rfl)), trivial⟩
  simp only [Act.put, pA, pB, pC]
  refine SG.p (v := ?v2_8_4) rfl rfl rfl (fun W => ?h2_8_4) ?r2_8_4
  case h2_8_4 => (first|(go_simp;done)|(go_simp;with_reducible rfl))
  simp only [Act.put, pA, pB, pC]
  refine SG.p (v := ?v2_8_5) rfl rfl rfl (fun W => ?h2_8_5) ?r2_8_5
  case h2_8_5 => (first|(go_simp;done)|(go_simp;with_reducible rfl))
  simp only [Act.put, pA, pB, pC]
  refine SG.p (v := ?v2_8_6) rfl rfl rfl (fun W => ?h2_8_6) ?r2_8_6
  case h2_8_6 => (first|(go_simp;done)|(go_simp;with_reducible rfl))
  simp only [Act.put, pA, pB, pC]
  refine SG.p (v := ?v2_8_7) rfl rfl rfl (fun W => ?h2_8_7) ?r2_8_7
  case h2_8_7 => (first|(go_simp;done)|(go_simp;with_reducible rfl))
  simp only [Act.put, pA, pB, pC]
  refine SG.p (v := ?v2_8_8) rfl rfl rfl (fun W => ?h2_8_8) ?r2_8_8
  case h2_8_8 => (first|(go_simp;done)|(go_simp;with_reducible rfl))
  simp only [Act.put, pA, pB, pC]
  simp only [SG]
  go_wp2_with fail
  clear k00 k01 k02 k0f lk0
  clear hold
  have hc := Invert_any A B 4 2 exC exL W26 (Lib.hid (HT.out.below (show Below w.heap.size w W26 from HF.out 23 _ rfl))) (show RdG W26 (A) exC.gates from HF.out 22 _ rfl) (by decide) (show RdM W26 (B) exL from HF.out 21 _ rfl) (by decide) (by decide)
  rw [ex_invert] at hc
  refine hc.mono ?_
  clear hc
  rintro e W27 ⟨v, rfl, ho, hb⟩
  obtain ⟨A11, c11, rfl, _, hm⟩ := ho.rdM (by decide) (by decide)
  replace HF := Lib.hid (HF.out.step hb)
  replace HF := Lib.hid (HF.out.push (.m (A11) exI) hm)
  clear ho hb hm
  have hold := olds W27
  go_wp2_with fail
  clear hold
  obtain ⟨V28, hV⟩ : ∃ V, (W27).alloc (.cells #[.int .i64 0] 3) = V := ⟨_, rfl⟩
  try rw [hV]
  have hb : Below W27.heap.size W27 V28 := by rw [← hV]; (repeat (first|exact bR _ _|assumption|apply bN|apply bA|apply bD))
  have x0 : V28.heap[W27.heap.size]? = some (.cells #[.int .i64 0] 3 (0, 0)) := by rw [← hV]; exact blk_alloc _ _ _ rfl
  clear hV
  replace HF := Lib.hid (HF.out.step hb)
  replace HF := Lib.hid (HF.out.push (.x (W27.heap.size) #[.int .i64 0] 3) x0)
  clear hb x0
  refine (gate_lay _ _ _ _ _).mono ?_
  rintro e W29 ⟨rfl, hb⟩
  replace HF := Lib.hid (HF.out.step hb)
  clear hb
  have hold := olds W29
  go_wp2_with fail
  clear hold
  obtain ⟨V30, hV⟩ : ∃ V, (W29).alloc (.cells #[.int .i64 0] 3) = V := ⟨_, rfl⟩
  try rw [hV]
  have hb : Below W29.heap.size W29 V30 := by rw [← hV]; (repeat (first|exact bR _ _|assumption|apply bN|apply bA|apply bD))
  have x0 : V30.heap[W29.heap.size]? = some (.cells #[.int .i64 0] 3 (0, 0)) := by rw [← hV]; exact blk_alloc _ _ _ rfl
  clear hV
  replace HF := Lib.hid (HF.out.step hb)
  replace HF := Lib.hid (HF.out.push (.x (W29.heap.size) #[.int .i64 0] 3) x0)
  clear hb x0
  refine (gate_lay _ _ _ _ _).mono ?_
  rintro e W31 ⟨rfl, hb⟩
  replace HF := Lib.hid (HF.out.step hb)
  clear hb
  have hold := olds W31
  go_wp2_with fail
  clear hold
  obtain ⟨V32, hV⟩ : ∃ V, (W31).alloc (.cells #[.int .i64 1, .slice (some ⟨W27.heap.size, 0, none⟩) 1 1, .int .i64 0, .int .i64 0, .int .i64 3, .slice (some ⟨W29.heap.size, 0, none⟩) 1 1, .int .i64 0, .int .i64 0] 55) = V := ⟨_, rfl⟩
  try rw [hV]
  have hb : Below W31.heap.size W31 V32 := by rw [← hV]; (repeat (first|exact bR _ _|assumption|apply bN|apply bA|apply bD))
  have x0 : V32.heap[W31.heap.size]? = some (.cells #[.int .i64 1, .slice (some ⟨W27.heap.size, 0, none⟩) 1 1, .int .i64 0, .int .i64 0, .int .i64 3, .slice (some ⟨W29.heap.size, 0, none⟩) 1 1, .int .i64 0, .int .i64 0] 55 (0, 0)) := by rw [← hV]; exact blk_alloc _ _ _ rfl
  clear hV
  replace HF := Lib.hid (HF.out.step hb)
  replace HF := Lib.hid (HF.out.push (.x (W31.heap.size) #[.int .i64 1, .slice (some ⟨W27.heap.size, 0, none⟩) 1 1, .int .i64 0, .int .i64 0, .int .i64 3, .slice (some ⟨W29.heap.size, 0, none⟩) 1 1, .int .i64 0, .int .i64 0] 55) x0)
  clear hb x0
  refine (on_lay _ _ _ _ _).mono ?_
  rintro e W33 ⟨rfl, hb⟩
  replace HF := Lib.hid (HF.out.step hb)
  clear hb
  have hg : RdG W33 (some ⟨W31.heap.size, 0, none⟩) exA.gates := by
    refine Rd.blk [[.int .i64 1, .slice (some ⟨W27.heap.size, 0, none⟩) 1 1, .int .i64 0, .int .i64 0], [.int .i64 3, .slice (some ⟨W29.heap.size, 0, none⟩) 1 1, .int .i64 0, .int .i64 0]] (show W33.heap[W31.heap.size]? = some (.cells #[.int .i64 1, .slice (some ⟨W27.heap.size, 0, none⟩) 1 1, .int .i64 0, .int .i64 0, .int .i64 3, .slice (some ⟨W29.heap.size, 0, none⟩) 1 1, .int .i64 0, .int .i64 0] 55 (0, 0)) from HF.out 0 _ rfl) rfl (by decide) rfl (by simp) fun k x cs hx hc => ?_
    rcases k with _ | _ | k
    · cases hx; cases hc; exact ⟨_, _, rfl, Nat.le_refl _, RdI.blk [0] (show W33.heap[W27.heap.size]? = some (.cells #[.int .i64 0] 3 (0, 0)) from HF.out 2 _ rfl) rfl (by decide)⟩
    · cases hx; cases hc; exact ⟨_, _, rfl, Nat.le_refl _, RdI.blk [0] (show W33.heap[W29.heap.size]? = some (.cells #[.int .i64 0] 3 (0, 0)) from HF.out 1 _ rfl) rfl (by decide)⟩
    · simp at hc
  replace HF := Lib.hid (HF.out.push (.g ((some ⟨W31.heap.size, 0, none⟩)) exA.gates) hg)
  clear hg
  have hold := olds W33
  go_wp2_with fail
  clear hold
  obtain ⟨V34, hV⟩ : ∃ V, (W33).alloc (.cells #[.int .i64 0] 3) = V := ⟨_, rfl⟩
  try rw [hV]
  have hb : Below W33.heap.size W33 V34 := by rw [← hV]; (repeat (first|exact bR _ _|assumption|apply bN|apply bA|apply bD))
  have x0 : V34.heap[W33.heap.size]? = some (.cells #[.int .i64 0] 3 (0, 0)) := by rw [← hV]; exact blk_alloc _ _ _ rfl
  clear hV
  replace HF := Lib.hid (HF.out.step hb)
  replace HF := Lib.hid (HF.out.push (.x (W33.heap.size) #[.int .i64 0] 3) x0)
  clear hb x0
  refine (gate_lay _ _ _ _ _).mono ?_
  rintro e W35 ⟨rfl, hb⟩
  replace HF := Lib.hid (HF.out.step hb)
  clear hb
  have hold := olds W35
  go_wp2_with fail
  clear hold
  obtain ⟨V36, hV⟩ : ∃ V, (W35).alloc (.cells #[.int .i64 0] 3) = V := ⟨_, rfl⟩
  try rw [hV]
  have hb : Below W35.heap.size W35 V36 := by rw [← hV]; (repeat (first|exact bR _ _|assumption|apply bN|apply bA|apply bD))
  have x0 : V36.heap[W35.heap.size]? = some (.cells #[.int .i64 0] 3 (0, 0)) := by rw [← hV]; exact blk_alloc _ _ _ rfl
  clear hV
  replace HF := Lib.hid (HF.out.step hb)
  replace HF := Lib.hid (HF.out.push (.x (W35.heap.size) #[.int .i64 0] 3) x0)
  clear hb x0
  refine (gate_lay _ _ _ _ _).mono ?_
  rintro e W37 ⟨rfl, hb⟩
  replace HF := Lib.hid (HF.out.step hb)
  clear hb
  have hold := olds W37
  go_wp2_with fail
  clear hold
  obtain ⟨V38, hV⟩ : ∃ V, (W37).alloc (.cells #[.int .i64 3, .slice (some ⟨W33.heap.size, 0, none⟩) 1 1, .int .i64 0, .int .i64 0, .int .i64 1, .slice (some ⟨W35.heap.size, 0, none⟩) 1 1, .int .i64 0, .int .i64 0] 55) = V := ⟨_, rfl⟩
  try rw [hV]
  have hb : Below W37.heap.size W37 V38 := by rw [← hV]; (repeat (first|exact bR _ _|assumption|apply bN|apply bA|apply bD))
  have x0 : V38.heap[W37.heap.size]? = some (.cells #[.int .i64 3, .slice (some ⟨W33.heap.size, 0, none⟩) 1 1, .int .i64 0, .int .i64 0, .int .i64 1, .slice (some ⟨W35.heap.size, 0, none⟩) 1 1, .int .i64 0, .int .i64 0] 55 (0, 0)) := by rw [← hV]; exact blk_alloc _ _ _ rfl
  clear hV
  replace HF := Lib.hid (HF.out.step hb)
  replace HF := Lib.hid (HF.out.push (.x (W37.heap.size) #[.int .i64 3, .slice (some ⟨W33.heap.size, 0, none⟩) 1 1, .int .i64 0, .int .i64 0, .int .i64 1, .slice (some ⟨W35.heap.size, 0, none⟩) 1 1, .int .i64 0, .int .i64 0] 55) x0)
  clear hb x0
  refine (on_lay _ _ _ _ _).mono ?_
  rintro e W39 ⟨rfl, hb⟩
  replace HF := Lib.hid (HF.out.step hb)
  clear hb
  have hg : RdG W39 (some ⟨W37.heap.size, 0, none⟩) exB.gates := by
    refine Rd.blk [[.int .i64 3, .slice (some ⟨W33.heap.size, 0, none⟩) 1 1, .int .i64 0, .int .i64 0], [.int .i64 1, .slice (some ⟨W35.heap.size, 0, none⟩) 1 1, .int .i64 0, .int .i64 0]] (show W39.heap[W37.heap.size]? = some (.cells #[.int .i64 3, .slice (some ⟨W33.heap.size, 0, none⟩) 1 1, .int .i64 0, .int .i64 0, .int .i64 1, .slice (some ⟨W35.heap.size, 0, none⟩) 1 1, .int .i64 0, .int .i64 0] 55 (0, 0)) from HF.out 0 _ rfl) rfl (by decide) rfl (by simp) fun k x cs hx hc => ?_
    rcases k with _ | _ | k
    · cases hx; cases hc; exact ⟨_, _, rfl, Nat.le_refl _, RdI.blk [0] (show W39.heap[W33.heap.size]? = some (.cells #[.int .i64 0] 3 (0, 0)) from HF.out 2 _ rfl) rfl (by decide)⟩
    · cases hx; cases hc; exact ⟨_, _, rfl, Nat.le_refl _, RdI.blk [0] (show W39.heap[W35.heap.size]? = some (.cells #[.int .i64 0] 3 (0, 0)) from HF.out 1 _ rfl) rfl (by decide)⟩
    · simp at hc
  replace HF := Lib.hid (HF.out.push (.g ((some ⟨W37.heap.size, 0, none⟩)) exB.gates) hg)
  clear hg
  have hold := olds W39
  go_wp2_with fail
  clear hold
  have hc := Search_any (some ⟨W31.heap.size, 0, none⟩) (some ⟨W37.heap.size, 0, none⟩) 2 2 exA exB 2 W39 (Lib.hid (HT.out.below (show Below w.heap.size w W39 from HF.out 32 _ rfl))) (show RdG W39 ((some ⟨W31.heap.size, 0, none⟩)) exA.gates from HF.out 4 _ rfl) (by decide) (show RdG W39 ((some ⟨W37.heap.size, 0, none⟩)) exB.gates from HF.out 0 _ rfl)
  rw [ex_search] at hc
  refine hc.mono ?_
  clear hc
  rintro e W40 ⟨v, rfl, ho, hb⟩
  obtain ⟨A12, c12, rfl, _, hm⟩ := ho.rdM (by decide) (by decide)
  replace HF := Lib.hid (HF.out.step hb)
  replace HF := Lib.hid (HF.out.push (.m (A12) exF) hm)
  clear ho hb hm
  obtain ⟨k00, k01, k02, k0f, lk0⟩ := HF.out.box 28 rfl
  obtain ⟨k10, k11, k12, k1f, lk1⟩ := HF.out.box 19 rfl
  obtain ⟨k20, k21, k22, k2f, lk2⟩ := HF.out.box 16 rfl
  obtain ⟨k30, k31, k32, k3f, lk3⟩ := HF.out.box 22 rfl
  have hold := olds W40
  go_upto_region 11 with fail
  refine wp_region_st (by kernel_rfl) (.op 0 (.op 1 (.op 2 (.op 3 (.op 4 (.op 5 (.op 6 (.op 7 (.op 8 (.op 9 (.op 10 (.op 11 (.op 12 (.op 13 (.op 14 (.op 15 (.op 16 (.op 17 (.op 18 (.op 19 (.op 20 (.op 21 (.op 22 (.op 23 (.op 24 (.op 25 (.op 26 (.op 27 (.op 28 (.op 29 (.op 30 (.op 31 (.op 32 (.alt true 33 (.op 34 (.op 35 (.op 36 (.op 37 (.op 38 (.op 39 (.op 40 (.op 41 (.op 42 (.op 43 (.op 44 (.op 45 (.op 46 (.alt true 47 (.alt true 48 (.alt true 49 (.alt true 50 (.alt true 51 (.op 52 (.op 53 (.op 54 (.op 55 (.op 56 (.op 57 (.op 58 (.op 59 (.alt true 60 (.op 61 (.op 62 (.op 63 (.op 64 (.op 65 (.op 66 (.op 67 (.op 68 (.op 69 (.alt true 70 (.alt true 71 (.op 72 (.op 73 (.op 74 (.op 75 (.op 76 (.op 77 (.op 78 (.alt true 79 (.op 80 (.alt true 81 (.op 82 (.alt true 83 (.alt true 84 (.op 85 (.op 86 (.op 87 (.alt true 88 (.op 89 (.alt true 90 (.op 91 (.alt true 92 (.alt true 93 (.op 94 (.op 95 .fin)) .stop) .stop)) .stop)) (.alt false 90 (.op 91 (.alt true 88 (.op 89 (.alt true 92 (.alt true 93 (.op 94 (.op 95 .fin)) .stop) .stop)) .stop)) .stop))))) .stop) .stop)) .stop)) (.alt false 81 (.op 82 (.alt true 79 (.op 80 (.alt true 83 (.alt true 84 (.op 85 (.op 86 (.op 87 (.alt true 88 (.op 89 (.alt true 90 (.op 91 (.alt true 92 (.alt true 93 (.op 94 (.op 95 .fin)) .stop) .stop)) .stop)) (.alt false 90 (.op 91 (.alt true 88 (.op 89 (.alt true 92 (.alt true 93 (.op 94 (.op 95 .fin)) .stop) .stop)) .stop)) .stop))))) .stop) .stop)) .stop)) .stop))))))))) .stop) .stop)))))))))) .stop))))))))) .stop) .stop) .stop) .stop) .stop)))))))))))))) .stop)))))))))))))))))))))))))))))))))) (by kernel_rfl) (by kernel_rfl) (by kernel_rfl) ?_
  refine ST.p (v := ?v1_11_0_1) rfl rfl rfl (fun W => ?h1_11_0_1) ?r1_11_0_1
  case h1_11_0_1 => (first|(go_simp;done)|(go_simp;with_reducible rfl)|(go_simp;constructor<;>with_reducible rfl))
  simp only [Act.put, pA, pB, pC]
  refine ST.p (v := ?v1_11_1_2) rfl rfl rfl (fun W => ?h1_11_1_2) ?r1_11_1_2
  case h1_11_1_2 => (first|(go_simp;done)|(go_simp;with_reducible rfl)|(go_simp;constructor<;>with_reducible rfl))
  simp only [Act.put, pA, pB, pC]
  refine ST.p (v := ?v1_11_2_3) rfl rfl rfl (fun W => ?h1_11_2_3) ?r1_11_2_3
  case h1_11_2_3 => (first|(go_simp;done)|(go_simp;with_reducible rfl)|(go_simp;constructor<;>with_reducible rfl))
  simp only [Act.put, pA, pB, pC]
  refine ST.p (v := ?v1_11_3_4) rfl rfl (by first|rfl|(simp [Region.wanted, yielded, *];done)) (fun W => ?h1_11_3_4) ?r1_11_3_4
  case h1_11_3_4 => (first|(go_simp;done)|(go_simp;with_reducible rfl)|(go_simp;constructor<;>with_reducible rfl))
  simp only [Act.put, pA, pB, pC]
  refine ST.p (v := ?v1_11_4_5) rfl rfl (by first|rfl|(simp [Region.wanted, yielded, *];done)) (fun W => ?h1_11_4_5) ?r1_11_4_5
  case h1_11_4_5 => (first|(go_simp;done)|(go_simp;with_reducible rfl)|(go_simp;constructor<;>with_reducible rfl))
  simp only [Act.put, pA, pB, pC]
  refine ST.p (v := ?v1_11_5_6) rfl rfl rfl (fun W => ?h1_11_5_6) ?r1_11_5_6
  case h1_11_5_6 => (first|(go_simp;done)|(go_simp;with_reducible rfl)|(go_simp;constructor<;>with_reducible rfl))
  simp only [Act.put, pA, pB, pC]
  refine ST.p (v := ?v1_11_6_7) rfl rfl rfl (fun W => ?h1_11_6_7) ?r1_11_6_7
  case h1_11_6_7 => (first|(go_simp;done)|(go_simp;with_reducible rfl)|(go_simp;constructor<;>with_reducible rfl))
  simp only [Act.put, pA, pB, pC]
  refine ST.p (v := ?v1_11_7_8) rfl rfl (by first|rfl|(simp [Region.wanted, yielded, *];done)) (fun W => ?h1_11_7_8) ?r1_11_7_8
  case h1_11_7_8 => (first|(go_simp;done)|(go_simp;with_reducible rfl)|(go_simp;constructor<;>with_reducible rfl))
  simp only [Act.put, pA, pB, pC]
  refine ST.p (v := ?v1_11_8_9) rfl rfl (by first|rfl|(simp [Region.wanted, yielded, *];done)) (fun W => ?h1_11_8_9) ?r1_11_8_9
  case h1_11_8_9 => (first|(go_simp;done)|(go_simp;with_reducible rfl)|(go_simp;constructor<;>with_reducible rfl))
  simp only [Act.put, pA, pB, pC]
  refine ST.p (v := ?v1_11_9_10) rfl rfl rfl (fun W => ?h1_11_9_10) ?r1_11_9_10
  case h1_11_9_10 => (first|(go_simp;done)|(go_simp;with_reducible rfl)|(go_simp;constructor<;>with_reducible rfl))
  simp only [Act.put, pA, pB, pC]
  refine ST.p (v := ?v1_11_10_11) rfl rfl rfl (fun W => ?h1_11_10_11) ?r1_11_10_11
  case h1_11_10_11 => (first|(go_simp;done)|(go_simp;with_reducible rfl)|(go_simp;constructor<;>with_reducible rfl))
  simp only [Act.put, pA, pB, pC]
  refine ST.p (v := ?v1_11_11_12) rfl rfl (by first|rfl|(simp [Region.wanted, yielded, *];done)) (fun W => ?h1_11_11_12) ?r1_11_11_12
  case h1_11_11_12 => (first|(go_simp;done)|(go_simp;with_reducible rfl)|(go_simp;constructor<;>with_reducible rfl))
  simp only [Act.put, pA, pB, pC]
  refine ST.p (v := ?v1_11_12_13) rfl rfl (by first|rfl|(simp [Region.wanted, yielded, *];done)) (fun W => ?h1_11_12_13) ?r1_11_12_13
  case h1_11_12_13 => (first|(go_simp;done)|(go_simp;with_reducible rfl)|(go_simp;constructor<;>with_reducible rfl))
  simp only [Act.put, pA, pB, pC]
  refine ST.p (v := ?v1_11_13_14) rfl rfl rfl (fun W => ?h1_11_13_14) ?r1_11_13_14
  case h1_11_13_14 => (first|(go_simp;done)|(go_simp;with_reducible rfl)|(go_simp;constructor<;>with_reducible rfl))
  simp only [Act.put, pA, pB, pC]
  refine ST.p (v := ?v1_11_14_15) rfl rfl rfl (fun W => ?h1_11_14_15) ?r1_11_14_15
  case h1_11_14_15 => (first|(go_simp;done)|(go_simp;with_reducible rfl)|(go_simp;constructor<;>with_reducible rfl))
  simp only [Act.put, pA, pB, pC]
  refine ST.p (v := ?v1_11_15_16) rfl rfl (by first|rfl|(simp [Region.wanted, yielded, *];done)) (fun W => ?h1_11_15_16) ?r1_11_15_16
  case h1_11_15_16 => (first|(go_simp;done)|(go_simp;with_reducible rfl)|(go_simp;constructor<;>with_reducible rfl))
  simp only [Act.put, pA, pB, pC]
  refine ST.p (v := ?v1_11_16_17) rfl rfl (by first|rfl|(simp [Region.wanted, yielded, *];done)) (fun W => ?h1_11_16_17) ?r1_11_16_17
  case h1_11_16_17 => (first|(go_simp;done)|(go_simp;with_reducible rfl)|(go_simp;constructor<;>with_reducible rfl))
  simp only [Act.put, pA, pB, pC]
  refine ST.p (v := ?v1_11_17_18) rfl rfl rfl (fun W => ?h1_11_17_18) ?r1_11_17_18
  case h1_11_17_18 => (first|(go_simp;done)|(go_simp;with_reducible rfl)|(go_simp;constructor<;>with_reducible rfl))
  simp only [Act.put, pA, pB, pC]
  refine ST.p (v := ?v1_11_18_19) rfl rfl rfl (fun W => ?h1_11_18_19) ?r1_11_18_19
  case h1_11_18_19 => (first|(go_simp;done)|(go_simp;with_reducible rfl)|(go_simp;constructor<;>with_reducible rfl))
  simp only [Act.put, pA, pB, pC]
  refine ST.p (v := ?v1_11_19_20) rfl rfl (by first|rfl|(simp [Region.wanted, yielded, *];done)) (fun W => ?h1_11_19_20) ?r1_11_19_20
  case h1_11_19_20 => (first|(go_simp;done)|(go_simp;with_reducible rfl)|(go_simp;constructor<;>with_reducible rfl))
  simp only [Act.put, pA, pB, pC]
  refine ST.p (v := ?v1_11_20_21) rfl rfl (by first|rfl|(simp [Region.wanted, yielded, *];done)) (fun W => ?h1_11_20_21) ?r1_11_20_21
  case h1_11_20_21 => (first|(go_simp;done)|(go_simp;with_reducible rfl)|(go_simp;constructor<;>with_reducible rfl))
  simp only [Act.put, pA, pB, pC]
  refine ST.p (v := ?v1_11_21_22) rfl rfl rfl (fun W => ?h1_11_21_22) ?r1_11_21_22
  case h1_11_21_22 => (first|(go_simp;done)|(go_simp;with_reducible rfl)|(go_simp;constructor<;>with_reducible rfl))
  simp only [Act.put, pA, pB, pC]
  refine ST.p (v := ?v1_11_22_23) rfl rfl rfl (fun W => ?h1_11_22_23) ?r1_11_22_23
  case h1_11_22_23 => (first|(go_simp;done)|(go_simp;with_reducible rfl)|(go_simp;constructor<;>with_reducible rfl))
  simp only [Act.put, pA, pB, pC]
  refine ST.p (v := ?v1_11_23_24) rfl rfl (by first|rfl|(simp [Region.wanted, yielded, *];done)) (fun W => ?h1_11_23_24) ?r1_11_23_24
  case h1_11_23_24 => (first|(go_simp;done)|(go_simp;with_reducible rfl)|(go_simp;constructor<;>with_reducible rfl))
  simp only [Act.put, pA, pB, pC]
  refine ST.p (v := ?v1_11_24_25) rfl rfl (by first|rfl|(simp [Region.wanted, yielded, *];done)) (fun W => ?h1_11_24_25) ?r1_11_24_25
  case h1_11_24_25 => (first|(go_simp;done)|(go_simp;with_reducible rfl)|(go_simp;constructor<;>with_reducible rfl))
  simp only [Act.put, pA, pB, pC]
  refine ST.p (v := ?v1_11_25_26) rfl rfl rfl (fun W => ?h1_11_25_26) ?r1_11_25_26
  case h1_11_25_26 => (first|(go_simp;done)|(go_simp;with_reducible rfl)|(go_simp;constructor<;>with_reducible rfl))
  simp only [Act.put, pA, pB, pC]
  refine ST.p (v := ?v1_11_26_27) rfl rfl rfl (fun W => ?h1_11_26_27) ?r1_11_26_27
  case h1_11_26_27 => (first|(go_simp;done)|(go_simp;with_reducible rfl)|(go_simp;constructor<;>with_reducible rfl))
  simp only [Act.put, pA, pB, pC]
  refine ST.p (v := ?v1_11_27_28) rfl rfl (by first|rfl|(simp [Region.wanted, yielded, *];done)) (fun W => ?h1_11_27_28) ?r1_11_27_28
  case h1_11_27_28 => (first|(go_simp;done)|(go_simp;with_reducible rfl)|(go_simp;constructor<;>with_reducible rfl))
  simp only [Act.put, pA, pB, pC]
  refine ST.p (v := ?v1_11_28_29) rfl rfl (by first|rfl|(simp [Region.wanted, yielded, *];done)) (fun W => ?h1_11_28_29) ?r1_11_28_29
  case h1_11_28_29 => (first|(go_simp;done)|(go_simp;with_reducible rfl)|(go_simp;constructor<;>with_reducible rfl))
  simp only [Act.put, pA, pB, pC]
  refine ST.p (v := ?v1_11_29_30) rfl rfl rfl (fun W => ?h1_11_29_30) ?r1_11_29_30
  case h1_11_29_30 => (first|(go_simp;done)|(go_simp;with_reducible rfl)|(go_simp;constructor<;>with_reducible rfl))
  simp only [Act.put, pA, pB, pC]
  refine ST.p (v := ?v1_11_30_31) rfl rfl rfl (fun W => ?h1_11_30_31) ?r1_11_30_31
  case h1_11_30_31 => (first|(go_simp;done)|(go_simp;with_reducible rfl)|(go_simp;constructor<;>with_reducible rfl))
  simp only [Act.put, pA, pB, pC]
  refine ST.p (v := ?v1_11_31_32) rfl rfl (by first|rfl|(simp [Region.wanted, yielded, *];done)) (fun W => ?h1_11_31_32) ?r1_11_31_32
  case h1_11_31_32 => (first|(go_simp;done)|(go_simp;with_reducible rfl)|(go_simp;constructor<;>with_reducible rfl))
  simp only [Act.put, pA, pB, pC]
  refine ST.p (v := ?v1_11_32_33) rfl rfl (by first|rfl|(simp [Region.wanted, yielded, *];done)) (fun W => ?h1_11_32_33) ?r1_11_32_33
  case h1_11_32_33 => (first|(go_simp;done)|(go_simp;with_reducible rfl)|(go_simp;constructor<;>with_reducible rfl))
  simp only [Act.put, pA, pB, pC]
  refine ST.c rfl (by first|rfl|(simp [Region.wanted, yielded, *];done)) (by first|(go_simp;done)|(go_simp;with_reducible rfl)|(go_simp;exact ⟨⟨rfl, rfl⟩, rfl⟩)) ?c1_11_33_129 ?x1_11_33_129
  case x1_11_33_129 => exact ST.stop
  clear k00 k01 k02 k0f lk0
  clear k10 k11 k12 k1f lk1
  clear k20 k21 k22 k2f lk2
  clear k30 k31 k32 k3f lk3
  clear hold
  obtain ⟨V41, hV⟩ : ∃ V, (W40).drew = V := ⟨_, rfl⟩
  rw [hV]
  have hb : Below W40.heap.size W40 V41 := by rw [← hV]; (repeat (first|exact bR _ _|assumption|apply bN|apply bA|apply bD))
  clear hV
  replace HF := Lib.hid (HF.out.step hb)
  clear hb
  have hc := rEqual_any A2 B 2 2 c2 2 exL exL V41 (show RdM V41 (A2) exL from HF.out 29 _ rfl) (show RdM V41 (B) exL from HF.out 31 _ rfl) rfl rfl
  rw [decide_eq_true rfl] at hc
  refine hc.mono ?_
  clear hc
  rintro e W42 ⟨rfl, hb⟩
  replace HF := Lib.hid (HF.out.step hb)
  clear hb
  obtain ⟨k00, k01, k02, k0f, lk0⟩ := HF.out.box 28 rfl
  obtain ⟨k10, k11, k12, k1f, lk1⟩ := HF.out.box 19 rfl
  obtain ⟨k20, k21, k22, k2f, lk2⟩ := HF.out.box 16 rfl
  obtain ⟨k30, k31, k32, k3f, lk3⟩ := HF.out.box 22 rfl
  have hold := olds W42
  refine ⟨_, rfl, ?_, ?_⟩
  · exact trivial
  simp only [Act.put, pA, pB, pC]
  refine ST.p (v := ?v1_11_34_34) rfl rfl rfl (fun W => ?h1_11_34_34) ?r1_11_34_34
  case h1_11_34_34 => (first|(go_simp;done)|(go_simp;with_reducible rfl)|(go_simp;constructor<;>with_reducible rfl))
  simp only [Act.put, pA, pB, pC]
  refine ST.p (v := ?v1_11_35_35) rfl rfl rfl (fun W => ?h1_11_35_35) ?r1_11_35_35
  case h1_11_35_35 => (first|(go_simp;done)|(go_simp;with_reducible rfl)|(go_simp;constructor<;>with_reducible rfl))
  simp only [Act.put, pA, pB, pC]
  refine ST.p (v := ?v1_11_36_36) rfl rfl (by first|rfl|(simp [Region.wanted, yielded, *];done)) (fun W => ?h1_11_36_36) ?r1_11_36_36
  case h1_11_36_36 => (first|(go_simp;done)|(go_simp;with_reducible rfl)|(go_simp;constructor<;>with_reducible rfl))
  simp only [Act.put, pA, pB, pC]
  refine ST.l (v := ?v1_11_37_37) rfl rfl (by first|rfl|(simp [Region.wanted, yielded, *];done)) ?h1_11_37_37 ?r1_11_37_37
  case h1_11_37_37 => (first|(go_simp;done)|(go_simp;with_reducible rfl)|(go_simp;constructor<;>with_reducible rfl))
  simp only [Act.put, pA, pB, pC]
  refine ST.p (v := ?v1_11_38_38) rfl rfl (by first|rfl|(simp [Region.wanted, yielded, *];done)) (fun W => ?h1_11_38_38) ?r1_11_38_38
  case h1_11_38_38 => (first|(go_simp;done)|(go_simp;with_reducible rfl)|(go_simp;constructor<;>with_reducible rfl))
  simp only [Act.put, pA, pB, pC]
  refine ST.p (v := ?v1_11_39_39) rfl rfl (by first|rfl|(simp [Region.wanted, yielded, *];done)) (fun W => ?h1_11_39_39) ?r1_11_39_39
  case h1_11_39_39 => (first|(go_simp;done)|(go_simp;with_reducible rfl)|(go_simp;constructor<;>with_reducible rfl))
  simp only [Act.put, pA, pB, pC]
  refine ST.p (v := ?v1_11_40_40) rfl rfl rfl (fun W => ?h1_11_40_40) ?r1_11_40_40
  case h1_11_40_40 => (first|(go_simp;done)|(go_simp;with_reducible rfl)|(go_simp;constructor<;>with_reducible rfl))
  simp only [Act.put, pA, pB, pC]
  refine ST.p (v := ?v1_11_41_41) rfl rfl rfl (fun W => ?h1_11_41_41) ?r1_11_41_41
  case h1_11_41_41 => (first|(go_simp;done)|(go_simp;with_reducible rfl)|(go_simp;constructor<;>with_reducible rfl))
  simp only [Act.put, pA, pB, pC]
  refine ST.p (v := ?v1_11_42_42) rfl rfl (by first|rfl|(simp [Region.wanted, yielded, *];done)) (fun W => ?h1_11_42_42) ?r1_11_42_42
  case h1_11_42_42 => (first|(go_simp;done)|(go_simp;with_reducible rfl)|(go_simp;constructor<;>with_reducible rfl))
  simp only [Act.put, pA, pB, pC]
  refine ST.p (v := ?v1_11_43_43) rfl rfl (by first|rfl|(simp [Region.wanted, yielded, *];done)) (fun W => ?h1_11_43_43) ?r1_11_43_43
  case h1_11_43_43 => (first|(go_simp;done)|(go_simp;with_reducible rfl)|(go_simp;constructor<;>with_reducible rfl))
  simp only [Act.put, pA, pB, pC]
  refine ST.p (v := ?v1_11_44_44) rfl rfl rfl (fun W => ?h1_11_44_44) ?r1_11_44_44
  case h1_11_44_44 => (first|(go_simp;done)|(go_simp;with_reducible rfl)|(go_simp;constructor<;>with_reducible rfl))
  simp only [Act.put, pA, pB, pC]
  refine ST.p (v := ?v1_11_45_45) rfl rfl rfl (fun W => ?h1_11_45_45) ?r1_11_45_45
  case h1_11_45_45 => (first|(go_simp;done)|(go_simp;with_reducible rfl)|(go_simp;constructor<;>with_reducible rfl))
  simp only [Act.put, pA, pB, pC]
  refine ST.l (v := ?v1_11_46_46) rfl rfl (by first|rfl|(simp [Region.wanted, yielded, *];done)) ?h1_11_46_46 ?r1_11_46_46
  case h1_11_46_46 => (first|(go_simp;done)|(go_simp;with_reducible rfl)|(go_simp;constructor<;>with_reducible rfl))
  simp only [Act.put, pA, pB, pC]
  refine ST.v (v := ?v1_11_47_128) (w' := ?w1_11_47_128) rfl (by first|rfl|(simp [Region.wanted, yielded, *];done)) ?h1_11_47_128 ?s1_11_47_128 ?r1_11_47_128 ?x1_11_47_128
  case h1_11_47_128 => (first|(go_simp;done)|(go_simp;with_reducible rfl)|(go_simp;constructor<;>with_reducible rfl))
  case s1_11_47_128 => exact ⟨(fun _ => ⟨_, drop_at rfl, by (first|(go_simp;done)|(go_simp;with_reducible rfl))⟩), (fun _ => ⟨_, drop_at rfl, by (first|(go_simp;done)|(go_simp;with_reducible rfl))⟩), trivial⟩
  case x1_11_47_128 => exact ST.stop
  simp only [Act.put, pA, pB, pC]
  refine ST.c rfl (by first|rfl|(simp [Region.wanted, yielded, *];done)) (by first|(go_simp;done)|(go_simp;with_reducible rfl)|(go_simp;exact ⟨⟨rfl, rfl⟩, rfl⟩)) ?c1_11_48_127 ?x1_11_48_127
  case x1_11_48_127 => exact ST.stop
  clear k00 k01 k02 k0f lk0
  clear k10 k11 k12 k1f lk1
  clear k20 k21 k22 k2f lk2
  clear k30 k31 k32 k3f lk3
  clear hold
  obtain ⟨V43, hV⟩ : ∃ V, (W42).alloc (.cells #[.int .i64 0] 3) = V := ⟨_, rfl⟩
  try rw [hV]
  have hb : Below W42.heap.size W42 V43 := by rw [← hV]; (repeat (first|exact bR _ _|assumption|apply bN|apply bA|apply bD))
  have x0 : V43.heap[W42.heap.size]? = some (.cells #[.int .i64 0] 3 (0, 0)) := by rw [← hV]; exact blk_alloc _ _ _ rfl
  clear hV
  replace HF := Lib.hid (HF.out.step hb)
  replace HF := Lib.hid (HF.out.push (.x (W42.heap.size) #[.int .i64 0] 3) x0)
  clear hb x0
  refine (gate_lay _ _ _ _ _).mono ?_
  rintro e W44 ⟨rfl, hb⟩
  replace HF := Lib.hid (HF.out.step hb)
  clear hb
  obtain ⟨k00, k01, k02, k0f, lk0⟩ := HF.out.box 29 rfl
  obtain ⟨k10, k11, k12, k1f, lk1⟩ := HF.out.box 20 rfl
  obtain ⟨k20, k21, k22, k2f, lk2⟩ := HF.out.box 17 rfl
  obtain ⟨k30, k31, k32, k3f, lk3⟩ := HF.out.box 23 rfl
  have hold := olds W44
  refine ⟨_, rfl, ?_, ?_⟩
  · exact ⟨(fun _ => ⟨_, drop_at rfl, by (first|(go_simp;done)|(go_simp;with_reducible rfl))⟩), (fun _ => ⟨_, drop_at rfl, by (first|(go_simp;done)|(go_simp;with_reducible rfl))⟩), trivial⟩
  simp only [Act.put, pA, pB, pC]
  refine ST.v (v := ?v1_11_49_126) (w' := ?w1_11_49_126) rfl (by first|rfl|(simp [Region.wanted, yielded, *];done)) ?h1_11_49_126 ?s1_11_49_126 ?r1_11_49_126 ?x1_11_49_126
  case h1_11_49_126 => (first|(go_simp;done)|(go_simp;with_reducible rfl)|(go_simp;constructor<;>with_reducible rfl))
  case s1_11_49_126 => exact ⟨(fun _ => ⟨_, drop_at rfl, by (first|(go_simp;done)|(go_simp;with_reducible rfl))⟩), (fun _ => ⟨_, drop_at rfl, by (first|(go_simp;done)|(go_simp;with_reducible rfl))⟩), trivial⟩
  case x1_11_49_126 => exact ST.stop
  simp only [Act.put, pA, pB, pC]
  refine ST.c rfl (by first|rfl|(simp [Region.wanted, yielded, *];done)) (by first|(go_simp;done)|(go_simp;with_reducible rfl)|(go_simp;exact ⟨⟨rfl, rfl⟩, rfl⟩)) ?c1_11_50_125 ?x1_11_50_125
  case x1_11_50_125 => exact ST.stop
  clear k00 k01 k02 k0f lk0
  clear k10 k11 k12 k1f lk1
  clear k20 k21 k22 k2f lk2
  clear k30 k31 k32 k3f lk3
  clear hold
  obtain ⟨V45, hV⟩ : ∃ V, (W44).alloc (.cells #[.int .i64 8, .slice (some ⟨W42.heap.size, 0, none⟩) 1 1, .int .i64 0, .int .i64 0] 55) = V := ⟨_, rfl⟩
  try rw [hV]
  have hb : Below W44.heap.size W44 V45 := by rw [← hV]; (repeat (first|exact bR _ _|assumption|apply bN|apply bA|apply bD))
  have x0 : V45.heap[W44.heap.size]? = some (.cells #[.int .i64 8, .slice (some ⟨W42.heap.size, 0, none⟩) 1 1, .int .i64 0, .int .i64 0] 55 (0, 0)) := by rw [← hV]; exact blk_alloc _ _ _ rfl
  clear hV
  replace HF := Lib.hid (HF.out.step hb)
  replace HF := Lib.hid (HF.out.push (.x (W44.heap.size) #[.int .i64 8, .slice (some ⟨W42.heap.size, 0, none⟩) 1 1, .int .i64 0, .int .i64 0] 55) x0)
  clear hb x0
  refine (on_lay _ _ _ _ _).mono ?_
  rintro e W46 ⟨rfl, hb⟩
  replace HF := Lib.hid (HF.out.step hb)
  clear hb
  have hg : RdG W46 (some ⟨W44.heap.size, 0, none⟩) exY.gates := by
    refine Rd.blk [[.int .i64 8, .slice (some ⟨W42.heap.size, 0, none⟩) 1 1, .int .i64 0, .int .i64 0]] (show W46.heap[W44.heap.size]? = some (.cells #[.int .i64 8, .slice (some ⟨W42.heap.size, 0, none⟩) 1 1, .int .i64 0, .int .i64 0] 55 (0, 0)) from HF.out 0 _ rfl) rfl (by decide) rfl (by simp) fun k x cs hx hc => ?_
    rcases k with _ | k
    · cases hx; cases hc; exact ⟨_, _, rfl, Nat.le_refl _, RdI.blk [0] (show W46.heap[W42.heap.size]? = some (.cells #[.int .i64 0] 3 (0, 0)) from HF.out 1 _ rfl) rfl (by decide)⟩
    · simp at hc
  replace HF := Lib.hid (HF.out.push (.g ((some ⟨W44.heap.size, 0, none⟩)) exY.gates) hg)
  clear hg
  obtain ⟨k00, k01, k02, k0f, lk0⟩ := HF.out.box 31 rfl
  obtain ⟨k10, k11, k12, k1f, lk1⟩ := HF.out.box 22 rfl
  obtain ⟨k20, k21, k22, k2f, lk2⟩ := HF.out.box 19 rfl
  obtain ⟨k30, k31, k32, k3f, lk3⟩ := HF.out.box 25 rfl
  have hold := olds W46
  refine ⟨_, rfl, ?_, ?_⟩
  · exact ⟨(fun _ => ⟨_, drop_at rfl, by (first|(go_simp;done)|(go_simp;with_reducible rfl))⟩), (fun _ => ⟨_, drop_at rfl, by (first|(go_simp;done)|(go_simp;with_reducible rfl))⟩), trivial⟩
  simp only [Act.put, pA, pB, pC]
  refine ST.c rfl (by first|rfl|(simp [Region.wanted, yielded, *];done)) (by first|(go_simp;done)|(go_simp;with_reducible rfl)|(go_simp;exact ⟨⟨rfl, rfl⟩, rfl⟩)) ?c1_11_51_124 ?x1_11_51_124
  case x1_11_51_124 => exact ST.stop
  clear k00 k01 k02 k0f lk0
  clear k10 k11 k12 k1f lk1
  clear k20 k21 k22 k2f lk2
  clear k30 k31 k32 k3f lk3
  clear hold
  have hc := kSame_any A8 (some ⟨W44.heap.size, 0, none⟩) c8 1 exY exY W46 (show RdG W46 (A8) exY.gates from HF.out 23 _ rfl) (show RdG W46 ((some ⟨W44.heap.size, 0, none⟩)) exY.gates from HF.out 0 _ rfl)
  rw [decide_eq_true rfl] at hc
  refine hc.mono ?_
  clear hc
  rintro e W47 ⟨rfl, hb⟩
  replace HF := Lib.hid (HF.out.step hb)
  clear hb
  obtain ⟨k00, k01, k02, k0f, lk0⟩ := HF.out.box 31 rfl
  obtain ⟨k10, k11, k12, k1f, lk1⟩ := HF.out.box 22 rfl
  obtain ⟨k20, k21, k22, k2f, lk2⟩ := HF.out.box 19 rfl
  obtain ⟨k30, k31, k32, k3f, lk3⟩ := HF.out.box 25 rfl
  have hold := olds W47
  refine ⟨_, rfl, ?_, ?_⟩
  · exact ⟨(nw (by kernel_rfl)), (fun _ => ⟨_, drop_at rfl, by (first|(go_simp;done)|(go_simp;with_reducible rfl))⟩), trivial⟩
  simp only [Act.put, pA, pB, pC]
  refine ST.p (v := ?v1_11_52_47) rfl rfl rfl (fun W => ?h1_11_52_47) ?r1_11_52_47
  case h1_11_52_47 => (first|(go_simp;done)|(go_simp;with_reducible rfl)|(go_simp;constructor<;>with_reducible rfl))
  simp only [Act.put, pA, pB, pC]
  refine ST.p (v := ?v1_11_53_48) rfl rfl rfl (fun W => ?h1_11_53_48) ?r1_11_53_48
  case h1_11_53_48 => (first|(go_simp;done)|(go_simp;with_reducible rfl)|(go_simp;constructor<;>with_reducible rfl))
  simp only [Act.put, pA, pB, pC]
  refine ST.p (v := ?v1_11_54_49) rfl rfl (by first|rfl|(simp [Region.wanted, yielded, *];done)) (fun W => ?h1_11_54_49) ?r1_11_54_49
  case h1_11_54_49 => (first|(go_simp;done)|(go_simp;with_reducible rfl)|(go_simp;constructor<;>with_reducible rfl))
  simp only [Act.put, pA, pB, pC]
  refine ST.p (v := ?v1_11_55_50) rfl rfl (by first|rfl|(simp [Region.wanted, yielded, *];done)) (fun W => ?h1_11_55_50) ?r1_11_55_50
  case h1_11_55_50 => (first|(go_simp;done)|(go_simp;with_reducible rfl)|(go_simp;constructor<;>with_reducible rfl))
  simp only [Act.put, pA, pB, pC]
  refine ST.p (v := ?v1_11_56_51) rfl rfl rfl (fun W => ?h1_11_56_51) ?r1_11_56_51
  case h1_11_56_51 => (first|(go_simp;done)|(go_simp;with_reducible rfl)|(go_simp;constructor<;>with_reducible rfl))
  simp only [Act.put, pA, pB, pC]
  refine ST.p (v := ?v1_11_57_52) rfl rfl rfl (fun W => ?h1_11_57_52) ?r1_11_57_52
  case h1_11_57_52 => (first|(go_simp;done)|(go_simp;with_reducible rfl)|(go_simp;constructor<;>with_reducible rfl))
  simp only [Act.put, pA, pB, pC]
  refine ST.l (v := ?v1_11_58_53) rfl rfl (by first|rfl|(simp [Region.wanted, yielded, *];done)) ?h1_11_58_53 ?r1_11_58_53
  case h1_11_58_53 => (first|(go_simp;done)|(go_simp;with_reducible rfl)|(go_simp;constructor<;>with_reducible rfl))
  simp only [Act.put, pA, pB, pC]
  refine ST.l (v := ?v1_11_59_54) rfl rfl (by first|rfl|(simp [Region.wanted, yielded, *];done)) ?h1_11_59_54 ?r1_11_59_54
  case h1_11_59_54 => (first|(go_simp;done)|(go_simp;with_reducible rfl)|(go_simp;constructor<;>with_reducible rfl))
  simp only [Act.put, pA, pB, pC]
  refine ST.c rfl (by first|rfl|(simp [Region.wanted, yielded, *];done)) (by first|(go_simp;done)|(go_simp;with_reducible rfl)|(go_simp;exact ⟨⟨rfl, rfl⟩, rfl⟩)) ?c1_11_60_123 ?x1_11_60_123
  case x1_11_60_123 => exact ST.stop
  clear k00 k01 k02 k0f lk0
  clear k10 k11 k12 k1f lk1
  clear k20 k21 k22 k2f lk2
  clear k30 k31 k32 k3f lk3
  clear hold
  have hc := kSame_any A9 (some ⟨W9.heap.size, 0, none⟩) c9 3 exX exX W47 (show RdG W47 (A9) exX.gates from HF.out 20 _ rfl) (show RdG W47 ((some ⟨W9.heap.size, 0, none⟩)) exX.gates from HF.out 26 _ rfl)
  rw [decide_eq_true rfl] at hc
  refine hc.mono ?_
  clear hc
  rintro e W48 ⟨rfl, hb⟩
  replace HF := Lib.hid (HF.out.step hb)
  clear hb
  obtain ⟨k00, k01, k02, k0f, lk0⟩ := HF.out.box 31 rfl
  obtain ⟨k10, k11, k12, k1f, lk1⟩ := HF.out.box 22 rfl
  obtain ⟨k20, k21, k22, k2f, lk2⟩ := HF.out.box 19 rfl
  obtain ⟨k30, k31, k32, k3f, lk3⟩ := HF.out.box 25 rfl
  have hold := olds W48
  refine ⟨_, rfl, ?_, ?_⟩
  · exact ⟨(nw (by kernel_rfl)), (nw (by kernel_rfl)), (fun _ => ⟨_, drop_at rfl, by (first|(go_simp;done)|(go_simp;with_reducible rfl))⟩), (fun _ => ⟨_, drop_at rfl, by (first|(go_simp;done)|(go_simp;with_reducible rfl))⟩), trivial⟩
  simp only [Act.put, pA, pB, pC]
  refine ST.p (v := ?v1_11_61_55) rfl rfl rfl (fun W => ?h1_11_61_55) ?r1_11_61_55
  case h1_11_61_55 => (first|(go_simp;done)|(go_simp;with_reducible rfl)|(go_simp;constructor<;>with_reducible rfl))
  simp only [Act.put, pA, pB, pC]
  refine ST.p (v := ?v1_11_62_56) rfl rfl rfl (fun W => ?h1_11_62_56) ?r1_11_62_56
  case h1_11_62_56 => (first|(go_simp;done)|(go_simp;with_reducible rfl)|(go_simp;constructor<;>with_reducible rfl))
  simp only [Act.put, pA, pB, pC]
  refine ST.p (v := ?v1_11_63_57) rfl rfl (by first|rfl|(simp [Region.wanted, yielded, *];done)) (fun W => ?h1_11_63_57) ?r1_11_63_57
  case h1_11_63_57 => (first|(go_simp;done)|(go_simp;with_reducible rfl)|(go_simp;constructor<;>with_reducible rfl))
  simp only [Act.put, pA, pB, pC]
  refine ST.p (v := ?v1_11_64_58) rfl rfl (by first|rfl|(simp [Region.wanted, yielded, *];done)) (fun W => ?h1_11_64_58) ?r1_11_64_58
  case h1_11_64_58 => (first|(go_simp;done)|(go_simp;with_reducible rfl)|(go_simp;constructor<;>with_reducible rfl))
  simp only [Act.put, pA, pB, pC]
  refine ST.p (v := ?v1_11_65_59) rfl rfl rfl (fun W => ?h1_11_65_59) ?r1_11_65_59
  case h1_11_65_59 => (first|(go_simp;done)|(go_simp;with_reducible rfl)|(go_simp;constructor<;>with_reducible rfl))
  simp only [Act.put, pA, pB, pC]
  refine ST.p (v := ?v1_11_66_60) rfl rfl rfl (fun W => ?h1_11_66_60) ?r1_11_66_60
  case h1_11_66_60 => (first|(go_simp;done)|(go_simp;with_reducible rfl)|(go_simp;constructor<;>with_reducible rfl))
  simp only [Act.put, pA, pB, pC]
  refine ST.p (v := ?v1_11_67_61) rfl rfl (by first|rfl|(simp [Region.wanted, yielded, *];done)) (fun W => ?h1_11_67_61) ?r1_11_67_61
  case h1_11_67_61 => (first|(go_simp;done)|(go_simp;with_reducible rfl)|(go_simp;constructor<;>with_reducible rfl))
  simp only [Act.put, pA, pB, pC]
  refine ST.p (v := ?v1_11_68_62) rfl rfl (by first|rfl|(simp [Region.wanted, yielded, *];done)) (fun W => ?h1_11_68_62) ?r1_11_68_62
  case h1_11_68_62 => (first|(go_simp;done)|(go_simp;with_reducible rfl)|(go_simp;constructor<;>with_reducible rfl))
  simp only [Act.put, pA, pB, pC]
  refine ST.p (v := ?v1_11_69_63) rfl rfl (by first|rfl|(simp [Region.wanted, yielded, *];done)) (fun W => ?h1_11_69_63) ?r1_11_69_63
  case h1_11_69_63 => (first|(go_simp;done)|(go_simp;with_reducible rfl)|(go_simp;constructor<;>with_reducible rfl))
  simp only [Act.put, pA, pB, pC]
  refine ST.v (v := ?v1_11_70_122) (w' := ?w1_11_70_122) rfl (by first|rfl|(simp [Region.wanted, yielded, *];done)) ?h1_11_70_122 ?s1_11_70_122 ?r1_11_70_122 ?x1_11_70_122
  case h1_11_70_122 => (first|(go_simp;done)|(go_simp;with_reducible rfl)|(go_simp;constructor<;>with_reducible rfl))
  case s1_11_70_122 => exact ⟨(fun _ => ⟨_, drop_at rfl, by (first|(go_simp;done)|(go_simp;with_reducible rfl))⟩), (fun _ => ⟨_, drop_at rfl, by (first|(go_simp;done)|(go_simp;with_reducible rfl))⟩), (fun _ => ⟨_, drop_at rfl, by (first|(go_simp;done)|(go_simp;with_reducible rfl))⟩), (fun _ => ⟨_, drop_at rfl, by (first|(go_simp;done)|(go_simp;with_reducible rfl))⟩), trivial⟩
  case x1_11_70_122 => exact ST.stop
  simp only [Act.put, pA, pB, pC]
  refine ST.c rfl (by first|rfl|(simp [Region.wanted, yielded, *];done)) (by first|(go_simp;done)|(go_simp;with_reducible rfl)|(go_simp;exact ⟨⟨rfl, rfl⟩, rfl⟩)) ?c1_11_71_121 ?x1_11_71_121
  case x1_11_71_121 => exact ST.stop
  clear k00 k01 k02 k0f lk0
  clear k10 k11 k12 k1f lk1
  clear k20 k21 k22 k2f lk2
  clear k30 k31 k32 k3f lk3
  clear hold
  obtain ⟨V49, hV⟩ : ∃ V, (W48).alloc (.cells #[.int .i64 43, .int .i64 0, .bool false, .slice none 0 0, .int .i64 43, .int .i64 1, .bool false, .slice none 0 0] 27) = V := ⟨_, rfl⟩
  try rw [hV]
  have hb : Below W48.heap.size W48 V49 := by rw [← hV]; (repeat (first|exact bR _ _|assumption|apply bN|apply bA|apply bD))
  have x0 : V49.heap[W48.heap.size]? = some (.cells #[.int .i64 43, .int .i64 0, .bool false, .slice none 0 0, .int .i64 43, .int .i64 1, .bool false, .slice none 0 0] 27 (0, 0)) := by rw [← hV]; exact blk_alloc _ _ _ rfl
  clear hV
  replace HF := Lib.hid (HF.out.step hb)
  replace HF := Lib.hid (HF.out.push (.x (W48.heap.size) #[.int .i64 43, .int .i64 0, .bool false, .slice none 0 0, .int .i64 43, .int .i64 1, .bool false, .slice none 0 0] 27) x0)
  clear hb x0
  have hm : RdM V49 (some ⟨W48.heap.size, 0, none⟩) exM := by
    refine Rd.blk [[.int .i64 43, .int .i64 0, .bool false, .slice none 0 0], [.int .i64 43, .int .i64 1, .bool false, .slice none 0 0]] (show V49.heap[W48.heap.size]? = some (.cells #[.int .i64 43, .int .i64 0, .bool false, .slice none 0 0, .int .i64 43, .int .i64 1, .bool false, .slice none 0 0] 27 (0, 0)) from HF.out 0 _ rfl) rfl (by decide) rfl (by simp) fun k x cs hx hc => ?_
    rcases k with _ | _ | k
    · cases hx; cases hc; exact ⟨_, _, rfl, Nat.le_refl _, Rd.nil _ _ _ _⟩
    · cases hx; cases hc; exact ⟨_, _, rfl, Nat.le_refl _, Rd.nil _ _ _ _⟩
    · simp at hc
  replace HF := Lib.hid (HF.out.push (.m ((some ⟨W48.heap.size, 0, none⟩)) exM) hm)
  clear hm
  have hc := rEqual_any A10 (some ⟨W48.heap.size, 0, none⟩) 2 2 c10 2 exM exM V49 (show RdM V49 (A10) exM from HF.out 15 _ rfl) (show RdM V49 ((some ⟨W48.heap.size, 0, none⟩)) exM from HF.out 0 _ rfl) rfl rfl
  rw [decide_eq_true rfl] at hc
  refine hc.mono ?_
  clear hc
  rintro e W50 ⟨rfl, hb⟩
  replace HF := Lib.hid (HF.out.step hb)
  clear hb
  obtain ⟨k00, k01, k02, k0f, lk0⟩ := HF.out.box 33 rfl
  obtain ⟨k10, k11, k12, k1f, lk1⟩ := HF.out.box 24 rfl
  obtain ⟨k20, k21, k22, k2f, lk2⟩ := HF.out.box 21 rfl
  obtain ⟨k30, k31, k32, k3f, lk3⟩ := HF.out.box 27 rfl
  have hold := olds W50
  have K0 : ∀ x y z o, (((W50.alloc x).alloc y).alloc z).cell? ⟨W3.heap.size, o, none⟩ = W50.cell? ⟨W3.heap.size, o, none⟩ := fun x y z o => by rw [hold _ _ _ _ lk0 (by first|(simp;done)|(simp;omega)|omega), hold _ _ _ _ lk0 (by first|(simp;done)|(simp;omega)|omega), hold _ _ _ _ lk0 (by first|(simp;done)|(simp;omega)|omega)]
  have K1 : ∀ x y z o, (((W50.alloc x).alloc y).alloc z).cell? ⟨W13.heap.size, o, none⟩ = W50.cell? ⟨W13.heap.size, o, none⟩ := fun x y z o => by rw [hold _ _ _ _ lk1 (by first|(simp;done)|(simp;omega)|omega), hold _ _ _ _ lk1 (by first|(simp;done)|(simp;omega)|omega), hold _ _ _ _ lk1 (by first|(simp;done)|(simp;omega)|omega)]
  have K2 : ∀ x y z o, (((W50.alloc x).alloc y).alloc z).cell? ⟨W15.heap.size, o, none⟩ = W50.cell? ⟨W15.heap.size, o, none⟩ := fun x y z o => by rw [hold _ _ _ _ lk2 (by first|(simp;done)|(simp;omega)|omega), hold _ _ _ _ lk2 (by first|(simp;done)|(simp;omega)|omega), hold _ _ _ _ lk2 (by first|(simp;done)|(simp;omega)|omega)]
  have K3 : ∀ x y z o, (((W50.alloc x).alloc y).alloc z).cell? ⟨W11.heap.size, o, none⟩ = W50.cell? ⟨W11.heap.size, o, none⟩ := fun x y z o => by rw [hold _ _ _ _ lk3 (by first|(simp;done)|(simp;omega)|omega), hold _ _ _ _ lk3 (by first|(simp;done)|(simp;omega)|omega), hold _ _ _ _ lk3 (by first|(simp;done)|(simp;omega)|omega)]
  refine ⟨_, rfl, ?_, ?_⟩
  · exact ⟨(fun _ => ⟨_, drop_at rfl, by (first|(go_simp;done)|(go_simp;with_reducible rfl))⟩), (fun _ => ⟨_, drop_at rfl, by (first|(go_simp;done)|(go_simp;with_reducible rfl))⟩), (fun _ => ⟨_, drop_at rfl, by (first|(go_simp;done)|(go_simp;with_reducible rfl))⟩), (fun _ => ⟨_, drop_at rfl, by (first|(go_simp;done)|(go_simp;with_reducible rfl))⟩), trivial⟩
  simp only [Act.put, pA, pB, pC]
  refine ST.p (v := ?v1_11_72_64) rfl rfl rfl (fun W => ?h1_11_72_64) ?r1_11_72_64
  case h1_11_72_64 => (first|(go_simp;done)|(go_simp;with_reducible rfl)|(go_simp;constructor<;>with_reducible rfl))
  simp only [Act.put, pA, pB, pC]
  refine ST.p (v := ?v1_11_73_65) rfl rfl rfl (fun W => ?h1_11_73_65) ?r1_11_73_65
  case h1_11_73_65 => (first|(go_simp;done)|(go_simp;with_reducible rfl)|(go_simp;constructor<;>with_reducible rfl))
  simp only [Act.put, pA, pB, pC]
  refine ST.p (v := ?v1_11_74_66) rfl rfl (by first|rfl|(simp [Region.wanted, yielded, *];done)) (fun W => ?h1_11_74_66) ?r1_11_74_66
  case h1_11_74_66 => (first|(go_simp;done)|(go_simp;with_reducible rfl)|(go_simp;constructor<;>with_reducible rfl))
  simp only [Act.put, pA, pB, pC]
  refine ST.p (v := ?v1_11_75_67) rfl rfl (by first|rfl|(simp [Region.wanted, yielded, *];done)) (fun W => ?h1_11_75_67) ?r1_11_75_67
  case h1_11_75_67 => (first|(go_simp;done)|(go_simp;with_reducible rfl)|(go_simp;constructor<;>with_reducible rfl))
  simp only [Act.put, pA, pB, pC]
  refine ST.p (v := ?v1_11_76_68) rfl rfl rfl (fun W => ?h1_11_76_68) ?r1_11_76_68
  case h1_11_76_68 => (first|(go_simp;done)|(go_simp;with_reducible rfl)|(go_simp;constructor<;>with_reducible rfl))
  simp only [Act.put, pA, pB, pC]
  refine ST.p (v := ?v1_11_77_69) rfl rfl rfl (fun W => ?h1_11_77_69) ?r1_11_77_69
  case h1_11_77_69 => (first|(go_simp;done)|(go_simp;with_reducible rfl)|(go_simp;constructor<;>with_reducible rfl))
  simp only [Act.put, pA, pB, pC]
  refine ST.p (v := ?v1_11_78_70) rfl rfl (by first|rfl|(simp [Region.wanted, yielded, *];done)) (fun W => ?h1_11_78_70) ?r1_11_78_70
  case h1_11_78_70 => (first|(go_simp;done)|(go_simp;with_reducible rfl)|(go_simp;constructor<;>with_reducible rfl))
  simp only [Act.put, pA, pB, pC]
  refine ST.v (v := ?v1_11_79_119) (w' := ?w1_11_79_119) rfl (by first|rfl|(simp [Region.wanted, yielded, *];done)) ?h1_11_79_119 ?s1_11_79_119 ?r1_11_79_119 ?x1_11_79_119
  case h1_11_79_119 => (first|(go_simp;done)|(go_simp;with_reducible rfl)|(go_simp;constructor<;>with_reducible rfl))
  case s1_11_79_119 => exact ⟨(fun _ => ⟨_, drop_at rfl, by (first|(go_simp;done)|(go_simp;with_reducible rfl))⟩), (fun _ => ⟨_, drop_at rfl, by (first|(go_simp;done)|(go_simp;with_reducible rfl))⟩), (fun _ => ⟨_, drop_at rfl, by (first|(go_simp;done)|(go_simp;with_reducible rfl))⟩), (fun _ => ⟨_, drop_at rfl, by (first|(go_simp;done)|(go_simp;with_reducible rfl))⟩), trivial⟩
  case r1_11_79_119 =>
   simp only [Act.put, pA, pB, pC]
   refine ST.p (v := ?v1_11_80_71) rfl rfl (by first|rfl|(simp [Region.wanted, yielded, *];done)) (fun W => ?h1_11_80_71) ?r1_11_80_71
   case h1_11_80_71 => (first|(go_simp;done)|(go_simp;with_reducible rfl)|(go_simp;constructor<;>with_reducible rfl))
   simp only [Act.put, pA, pB, pC]
   refine ST.v (v := ?v1_11_81_94) (w' := ?w1_11_81_94) rfl (by first|rfl|(simp [Region.wanted, yielded, *];done)) ?h1_11_81_94 ?s1_11_81_94 ?r1_11_81_94 ?x1_11_81_94
   case h1_11_81_94 => (first|(go_simp;done)|(go_simp;with_reducible rfl)|(go_simp;constructor<;>with_reducible rfl))
   case s1_11_81_94 => exact ⟨(fun _ => ⟨_, drop_at rfl, by (first|(go_simp;done)|(go_simp;with_reducible rfl))⟩), (fun _ => ⟨_, drop_at rfl, by (first|(go_simp;done)|(go_simp;with_reducible rfl))⟩), (fun _ => ⟨_, drop_at rfl, by (first|(go_simp;done)|(go_simp;with_reducible rfl))⟩), (fun _ => ⟨_, drop_at rfl, by (first|(go_simp;done)|(go_simp;with_reducible rfl))⟩), trivial⟩
   case x1_11_81_94 => exact ST.stop
   simp only [Act.put, pA, pB, pC]
   refine ST.p (v := ?v1_11_82_72) rfl rfl (by first|rfl|(simp [Region.wanted, yielded, *];done)) (fun W => ?h1_11_82_72) ?r1_11_82_72
   case h1_11_82_72 => (first|(go_simp;done)|(go_simp;with_reducible rfl)|(go_simp;constructor<;>with_reducible rfl))
   simp only [Act.put, pA, pB, pC]
   refine ST.v (v := ?v1_11_83_93) (w' := ?w1_11_83_93) rfl (by first|rfl|(simp [Region.wanted, yielded, *];done)) ?h1_11_83_93 ?s1_11_83_93 ?r1_11_83_93 ?x1_11_83_93
   case h1_11_83_93 => (first|(go_simp;done)|(go_simp;with_reducible rfl)|(go_simp;constructor<;>with_reducible rfl))
   case s1_11_83_93 => exact ⟨(fun _ => ⟨_, drop_at rfl, by (first|(go_simp;done)|(go_simp;with_reducible rfl))⟩), (fun _ => ⟨_, drop_at rfl, by (first|(go_simp;done)|(go_simp;with_reducible rfl))⟩), (fun _ => ⟨_, drop_at rfl, by (first|(go_simp;done)|(go_simp;with_reducible rfl))⟩), (fun _ => ⟨_, drop_at rfl, by (first|(go_simp;done)|(go_simp;with_reducible rfl))⟩), trivial⟩
   case x1_11_83_93 => exact ST.stop
   simp only [Act.put, pA, pB, pC]
   refine ST.c rfl (by first|rfl|(simp [Region.wanted, yielded, *];done)) (by first|(go_simp;done)|(go_simp;with_reducible rfl)|(go_simp;exact ⟨⟨rfl, rfl⟩, rfl⟩)) ?c1_11_84_92 ?x1_11_84_92
   case x1_11_84_92 => exact ST.stop
   clear K0 K1 K2 K3
   clear k00 k01 k02 k0f lk0
   clear k10 k11 k12 k1f lk1
   clear k20 k21 k22 k2f lk2
   clear k30 k31 k32 k3f lk3
   clear hold
   obtain ⟨V51, hV⟩ : ∃ V, (((W50).alloc (.cells #[.int .i64 0, .int .i64 1] 3)).alloc (.cells #[.int .i64 0, .int .i64 1] 3)).alloc (.cells #[.int .i64 9, .int .i64 0, .bool true, .slice (some ⟨W50.heap.size, 0, none⟩) 2 2, .int .i64 33, .int .i64 0, .bool true, .slice (some ⟨W50.heap.size + 1, 0, none⟩) 2 2] 27) = V := ⟨_, rfl⟩
   try rw [hV]
   have hb : Below W50.heap.size W50 V51 := by rw [← hV]; (repeat (first|exact bR _ _|assumption|apply bN|apply bA|apply bD))
   have x0 : V51.heap[W50.heap.size]? = some (.cells #[.int .i64 0, .int .i64 1] 3 (0, 0)) := by rw [← hV]; exact alloc_old (alloc_old (blk_alloc _ _ _ rfl))
   have x1 : V51.heap[W50.heap.size + 1]? = some (.cells #[.int .i64 0, .int .i64 1] 3 (0, 0)) := by rw [← hV]; exact alloc_old (blk_alloc _ _ _ (by simp))
   have x2 : V51.heap[W50.heap.size + 2]? = some (.cells #[.int .i64 9, .int .i64 0, .bool true, .slice (some ⟨W50.heap.size, 0, none⟩) 2 2, .int .i64 33, .int .i64 0, .bool true, .slice (some ⟨W50.heap.size + 1, 0, none⟩) 2 2] 27 (0, 0)) := by rw [← hV]; exact blk_alloc _ _ _ (by simp)
   clear hV
   replace HF := Lib.hid (HF.out.step hb)
   replace HF := Lib.hid (HF.out.push (.x (W50.heap.size) #[.int .i64 0, .int .i64 1] 3) x0)
   replace HF := Lib.hid (HF.out.push (.x (W50.heap.size + 1) #[.int .i64 0, .int .i64 1] 3) x1)
   replace HF := Lib.hid (HF.out.push (.x (W50.heap.size + 2) #[.int .i64 9, .int .i64 0, .bool true, .slice (some ⟨W50.heap.size, 0, none⟩) 2 2, .int .i64 33, .int .i64 0, .bool true, .slice (some ⟨W50.heap.size + 1, 0, none⟩) 2 2] 27) x2)
   clear hb x0 x1 x2
   have hm : RdM V51 (some ⟨W50.heap.size + 2, 0, none⟩) exI := by
     refine Rd.blk [[.int .i64 9, .int .i64 0, .bool true, .slice (some ⟨W50.heap.size, 0, none⟩) 2 2], [.int .i64 33, .int .i64 0, .bool true, .slice (some ⟨W50.heap.size + 1, 0, none⟩) 2 2]] (show V51.heap[W50.heap.size + 2]? = some (.cells #[.int .i64 9, .int .i64 0, .bool true, .slice (some ⟨W50.heap.size, 0, none⟩) 2 2, .int .i64 33, .int .i64 0, .bool true, .slice (some ⟨W50.heap.size + 1, 0, none⟩) 2 2] 27 (0, 0)) from HF.out 0 _ rfl) rfl (by decide) rfl (by simp) fun k x cs hx hc => ?_
     rcases k with _ | _ | k
     · cases hx; cases hc; exact ⟨_, _, rfl, Nat.le_refl _, RdI.blk [0, 1] (show V51.heap[W50.heap.size]? = some (.cells #[.int .i64 0, .int .i64 1] 3 (0, 0)) from HF.out 2 _ rfl) rfl (by decide)⟩
     · cases hx; cases hc; exact ⟨_, _, rfl, Nat.le_refl _, RdI.blk [0, 1] (show V51.heap[W50.heap.size + 1]? = some (.cells #[.int .i64 0, .int .i64 1] 3 (0, 0)) from HF.out 1 _ rfl) rfl (by decide)⟩
     · simp at hc
   replace HF := Lib.hid (HF.out.push (.m ((some ⟨W50.heap.size + 2, 0, none⟩)) exI) hm)
   clear hm
   have hc := rEqual_any A11 (some ⟨W50.heap.size + 2, 0, none⟩) 2 2 c11 2 exI exI V51 (show RdM V51 (A11) exI from HF.out 18 _ rfl) (show RdM V51 ((some ⟨W50.heap.size + 2, 0, none⟩)) exI from HF.out 0 _ rfl) rfl rfl
   rw [decide_eq_true rfl] at hc
   refine hc.mono ?_
   clear hc
   rintro e W52 ⟨rfl, hb⟩
   replace HF := Lib.hid (HF.out.step hb)
   clear hb
   obtain ⟨k00, k01, k02, k0f, lk0⟩ := HF.out.box 37 rfl
   obtain ⟨k10, k11, k12, k1f, lk1⟩ := HF.out.box 28 rfl
   obtain ⟨k20, k21, k22, k2f, lk2⟩ := HF.out.box 25 rfl
   obtain ⟨k30, k31, k32, k3f, lk3⟩ := HF.out.box 31 rfl
   have hold := olds W52
   have K0 : ∀ x y z o, (((W52.alloc x).alloc y).alloc z).cell? ⟨W3.heap.size, o, none⟩ = W52.cell? ⟨W3.heap.size, o, none⟩ := fun x y z o => by rw [hold _ _ _ _ lk0 (by first|(simp;done)|(simp;omega)|omega), hold _ _ _ _ lk0 (by first|(simp;done)|(simp;omega)|omega), hold _ _ _ _ lk0 (by first|(simp;done)|(simp;omega)|omega)]
   have K1 : ∀ x y z o, (((W52.alloc x).alloc y).alloc z).cell? ⟨W13.heap.size, o, none⟩ = W52.cell? ⟨W13.heap.size, o, none⟩ := fun x y z o => by rw [hold _ _ _ _ lk1 (by first|(simp;done)|(simp;omega)|omega), hold _ _ _ _ lk1 (by first|(simp;done)|(simp;omega)|omega), hold _ _ _ _ lk1 (by first|(simp;done)|(simp;omega)|omega)]
   have K2 : ∀ x y z o, (((W52.alloc x).alloc y).alloc z).cell? ⟨W15.heap.size, o, none⟩ = W52.cell? ⟨W15.heap.size, o, none⟩ := fun x y z o => by rw [hold _ _ _ _ lk2 (by first|(simp;done)|(simp;omega)|omega), hold _ _ _ _ lk2 (by first|(simp;done)|(simp;omega)|omega), hold _ _ _ _ lk2 (by first|(simp;done)|(simp;omega)|omega)]
   have K3 : ∀ x y z o, (((W52.alloc x).alloc y).alloc z).cell? ⟨W11.heap.size, o, none⟩ = W52.cell? ⟨W11.heap.size, o, none⟩ := fun x y z o => by rw [hold _ _ _ _ lk3 (by first|(simp;done)|(simp;omega)|omega), hold _ _ _ _ lk3 (by first|(simp;done)|(simp;omega)|omega), hold _ _ _ _ lk3 (by first|(simp;done)|(simp;omega)|omega)]
   refine ⟨_, rfl, ?_, ?_⟩
   · exact ⟨(fun _ => ⟨_, drop_at rfl, by (first|(go_simp;done)|(go_simp;with_reducible rfl))⟩), (fun _ => ⟨_, drop_at rfl, by (first|(go_simp;done)|(go_simp;with_reducible rfl))⟩), (fun _ => ⟨_, drop_at rfl, by (first|(go_simp;done)|(go_simp;with_reducible rfl))⟩), (fun _ => ⟨_, drop_at rfl, by (first|(go_simp;done)|(go_simp;with_reducible rfl))⟩), trivial⟩
   simp only [Act.put, pA, pB, pC]
   refine ST.p (v := ?v1_11_85_73) rfl rfl rfl (fun W => ?h1_11_85_73) ?r1_11_85_73
   case h1_11_85_73 => (first|(go_simp;done)|(go_simp;with_reducible rfl)|(go_simp;constructor<;>with_reducible rfl))
   simp only [Act.put, pA, pB, pC]
   refine ST.p (v := ?v1_11_86_74) rfl rfl rfl (fun W => ?h1_11_86_74) ?r1_11_86_74
   case h1_11_86_74 => (first|(go_simp;done)|(go_simp;with_reducible rfl)|(go_simp;constructor<;>with_reducible rfl))
   simp only [Act.put, pA, pB, pC]
   refine ST.p (v := ?v1_11_87_75) rfl rfl (by first|rfl|(simp [Region.wanted, yielded, *];done)) (fun W => ?h1_11_87_75) ?r1_11_87_75
   case h1_11_87_75 => (first|(go_simp;done)|(go_simp;with_reducible rfl)|(go_simp;constructor<;>with_reducible rfl))
   simp only [Act.put, pA, pB, pC]
   refine ST.v (v := ?v1_11_88_90) (w' := ?w1_11_88_90) rfl (by first|rfl|(simp [Region.wanted, yielded, *];done)) ?h1_11_88_90 ?s1_11_88_90 ?r1_11_88_90 ?x1_11_88_90
   case h1_11_88_90 => (first|(go_simp;done)|(go_simp;with_reducible rfl)|(go_simp;constructor<;>with_reducible rfl))
   case s1_11_88_90 => exact ⟨(fun _ => ⟨_, drop_at rfl, by (first|(go_simp;done)|(go_simp;with_reducible rfl))⟩), (fun _ => ⟨_, drop_at rfl, by (first|(go_simp;done)|(go_simp;with_reducible rfl))⟩), (fun _ => ⟨_, drop_at rfl, by (first|(go_simp;done)|(go_simp;with_reducible rfl))⟩), (fun _ => ⟨_, drop_at rfl, by (first|(go_simp;done)|(go_simp;with_reducible rfl))⟩), trivial⟩
   case r1_11_88_90 =>
    simp only [Act.put, pA, pB, pC]
    refine ST.p (v := ?v1_11_89_76) rfl rfl (by first|rfl|(simp [Region.wanted, yielded, *];done)) (fun W => ?h1_11_89_76) ?r1_11_89_76
    case h1_11_89_76 => (first|(go_simp;done)|(go_simp;with_reducible rfl)|(go_simp;constructor<;>with_reducible rfl))
    simp only [Act.put, pA, pB, pC]
    refine ST.v (v := ?v1_11_90_82) (w' := ?w1_11_90_82) rfl (by first|rfl|(simp [Region.wanted, yielded, *];done)) ?h1_11_90_82 ?s1_11_90_82 ?r1_11_90_82 ?x1_11_90_82
    case h1_11_90_82 => (first|(go_simp;done)|(go_simp;with_reducible rfl)|(go_simp;constructor<;>with_reducible rfl))
    case s1_11_90_82 => exact ⟨(fun _ => ⟨_, drop_at rfl, by (first|(go_simp;done)|(go_simp;with_reducible rfl))⟩), (fun _ => ⟨_, drop_at rfl, by (first|(go_simp;done)|(go_simp;with_reducible rfl))⟩), (fun _ => ⟨_, drop_at rfl, by (first|(go_simp;done)|(go_simp;with_reducible rfl))⟩), (fun _ => ⟨_, drop_at rfl, by (first|(go_simp;done)|(go_simp;with_reducible rfl))⟩), trivial⟩
    case x1_11_90_82 => exact ST.stop
    simp only [Act.put, pA, pB, pC]
    refine ST.p (v := ?v1_11_91_77) rfl rfl (by first|rfl|(simp [Region.wanted, yielded, *];done)) (fun W => ?h1_11_91_77) ?r1_11_91_77
    case h1_11_91_77 => (first|(go_simp;done)|(go_simp;with_reducible rfl)|(go_simp;constructor<;>with_reducible rfl))
    simp only [Act.put, pA, pB, pC]
    refine ST.v (v := ?v1_11_92_81) (w' := ?w1_11_92_81) rfl (by first|rfl|(simp [Region.wanted, yielded, *];done)) ?h1_11_92_81 ?s1_11_92_81 ?r1_11_92_81 ?x1_11_92_81
    case h1_11_92_81 => (first|(go_simp;done)|(go_simp;with_reducible rfl)|(go_simp;constructor<;>with_reducible rfl))
    case s1_11_92_81 => exact ⟨(fun _ => ⟨_, drop_at rfl, by (first|(go_simp;done)|(go_simp;with_reducible rfl))⟩), (fun _ => ⟨_, drop_at rfl, by (first|(go_simp;done)|(go_simp;with_reducible rfl))⟩), (fun _ => ⟨_, drop_at rfl, by (first|(go_simp;done)|(go_simp;with_reducible rfl))⟩), (fun _ => ⟨_, drop_at rfl, by (first|(go_simp;done)|(go_simp;with_reducible rfl))⟩), trivial⟩
    case x1_11_92_81 => exact ST.stop
    simp only [Act.put, pA, pB, pC]
    refine ST.c rfl (by first|rfl|(simp [Region.wanted, yielded, *];done)) (by first|(go_simp;done)|(go_simp;with_reducible rfl)|(go_simp;exact ⟨⟨rfl, rfl⟩, rfl⟩)) ?c1_11_93_80 ?x1_11_93_80
    case x1_11_93_80 => exact ST.stop
    clear K0 K1 K2 K3
    clear k00 k01 k02 k0f lk0
    clear k10 k11 k12 k1f lk1
    clear k20 k21 k22 k2f lk2
    clear k30 k31 k32 k3f lk3
    clear hold
    obtain ⟨V53, hV⟩ : ∃ V, (((W52).alloc (.cells #[.int .i64 0] 3)).alloc (.cells #[.int .i64 0] 3)).alloc (.cells #[.int .i64 0, .int .i64 2, .bool true, .slice (some ⟨W52.heap.size, 0, none⟩) 1 1, .int .i64 23, .int .i64 0, .bool false, .slice (some ⟨W52.heap.size + 1, 0, none⟩) 1 1] 27) = V := ⟨_, rfl⟩
    try rw [hV]
    have hb : Below W52.heap.size W52 V53 := by rw [← hV]; (repeat (first|exact bR _ _|assumption|apply bN|apply bA|apply bD))
    have x0 : V53.heap[W52.heap.size]? = some (.cells #[.int .i64 0] 3 (0, 0)) := by rw [← hV]; exact alloc_old (alloc_old (blk_alloc _ _ _ rfl))
    have x1 : V53.heap[W52.heap.size + 1]? = some (.cells #[.int .i64 0] 3 (0, 0)) := by rw [← hV]; exact alloc_old (blk_alloc _ _ _ (by simp))
    have x2 : V53.heap[W52.heap.size + 2]? = some (.cells #[.int .i64 0, .int .i64 2, .bool true, .slice (some ⟨W52.heap.size, 0, none⟩) 1 1, .int .i64 23, .int .i64 0, .bool false, .slice (some ⟨W52.heap.size + 1, 0, none⟩) 1 1] 27 (0, 0)) := by rw [← hV]; exact blk_alloc _ _ _ (by simp)
    clear hV
    replace HF := Lib.hid (HF.out.step hb)
    replace HF := Lib.hid (HF.out.push (.x (W52.heap.size) #[.int .i64 0] 3) x0)
    replace HF := Lib.hid (HF.out.push (.x (W52.heap.size + 1) #[.int .i64 0] 3) x1)
    replace HF := Lib.hid (HF.out.push (.x (W52.heap.size + 2) #[.int .i64 0, .int .i64 2, .bool true, .slice (some ⟨W52.heap.size, 0, none⟩) 1 1, .int .i64 23, .int .i64 0, .bool false, .slice (some ⟨W52.heap.size + 1, 0, none⟩) 1 1] 27) x2)
    clear hb x0 x1 x2
    have hm : RdM V53 (some ⟨W52.heap.size + 2, 0, none⟩) exF := by
      refine Rd.blk [[.int .i64 0, .int .i64 2, .bool true, .slice (some ⟨W52.heap.size, 0, none⟩) 1 1], [.int .i64 23, .int .i64 0, .bool false, .slice (some ⟨W52.heap.size + 1, 0, none⟩) 1 1]] (show V53.heap[W52.heap.size + 2]? = some (.cells #[.int .i64 0, .int .i64 2, .bool true, .slice (some ⟨W52.heap.size, 0, none⟩) 1 1, .int .i64 23, .int .i64 0, .bool false, .slice (some ⟨W52.heap.size + 1, 0, none⟩) 1 1] 27 (0, 0)) from HF.out 0 _ rfl) rfl (by decide) rfl (by simp) fun k x cs hx hc => ?_
      rcases k with _ | _ | k
      · cases hx; cases hc; exact ⟨_, _, rfl, Nat.le_refl _, RdI.blk [0] (show V53.heap[W52.heap.size]? = some (.cells #[.int .i64 0] 3 (0, 0)) from HF.out 2 _ rfl) rfl (by decide)⟩
      · cases hx; cases hc; exact ⟨_, _, rfl, Nat.le_refl _, RdI.blk [0] (show V53.heap[W52.heap.size + 1]? = some (.cells #[.int .i64 0] 3 (0, 0)) from HF.out 1 _ rfl) rfl (by decide)⟩
      · simp at hc
    replace HF := Lib.hid (HF.out.push (.m ((some ⟨W52.heap.size + 2, 0, none⟩)) exF) hm)
    clear hm
    have hc := rEqual_any A12 (some ⟨W52.heap.size + 2, 0, none⟩) 2 2 c12 2 exF exF V53 (show RdM V53 (A12) exF from HF.out 13 _ rfl) (show RdM V53 ((some ⟨W52.heap.size + 2, 0, none⟩)) exF from HF.out 0 _ rfl) rfl rfl
    rw [decide_eq_true rfl] at hc
    refine hc.mono ?_
    clear hc
    rintro e W54 ⟨rfl, hb⟩
    replace HF := Lib.hid (HF.out.step hb)
    clear hb
    obtain ⟨k00, k01, k02, k0f, lk0⟩ := HF.out.box 41 rfl
    obtain ⟨k10, k11, k12, k1f, lk1⟩ := HF.out.box 32 rfl
    obtain ⟨k20, k21, k22, k2f, lk2⟩ := HF.out.box 29 rfl
    obtain ⟨k30, k31, k32, k3f, lk3⟩ := HF.out.box 35 rfl
    have hold := olds W54
    have K0 : ∀ x y z o, (((W54.alloc x).alloc y).alloc z).cell? ⟨W3.heap.size, o, none⟩ = W54.cell? ⟨W3.heap.size, o, none⟩ := fun x y z o => by rw [hold _ _ _ _ lk0 (by first|(simp;done)|(simp;omega)|omega), hold _ _ _ _ lk0 (by first|(simp;done)|(simp;omega)|omega), hold _ _ _ _ lk0 (by first|(simp;done)|(simp;omega)|omega)]
    have K1 : ∀ x y z o, (((W54.alloc x).alloc y).alloc z).cell? ⟨W13.heap.size, o, none⟩ = W54.cell? ⟨W13.heap.size, o, none⟩ := fun x y z o => by rw [hold _ _ _ _ lk1 (by first|(simp;done)|(simp;omega)|omega), hold _ _ _ _ lk1 (by first|(simp;done)|(simp;omega)|omega), hold _ _ _ _ lk1 (by first|(simp;done)|(simp;omega)|omega)]
    have K2 : ∀ x y z o, (((W54.alloc x).alloc y).alloc z).cell? ⟨W15.heap.size, o, none⟩ = W54.cell? ⟨W15.heap.size, o, none⟩ := fun x y z o => by rw [hold _ _ _ _ lk2 (by first|(simp;done)|(simp;omega)|omega), hold _ _ _ _ lk2 (by first|(simp;done)|(simp;omega)|omega), hold _ _ _ _ lk2 (by first|(simp;done)|(simp;omega)|omega)]
    have K3 : ∀ x y z o, (((W54.alloc x).alloc y).alloc z).cell? ⟨W11.heap.size, o, none⟩ = W54.cell? ⟨W11.heap.size, o, none⟩ := fun x y z o => by rw [hold _ _ _ _ lk3 (by first|(simp;done)|(simp;omega)|omega), hold _ _ _ _ lk3 (by first|(simp;done)|(simp;omega)|omega), hold _ _ _ _ lk3 (by first|(simp;done)|(simp;omega)|omega)]
    refine ⟨_, rfl, ?_, ?_⟩
    · exact ⟨(fun _ => ⟨_, drop_at rfl, by (first|(go_simp;done)|(go_simp;with_reducible rfl))⟩), (fun _ => ⟨_, drop_at rfl, by (first|(go_simp;done)|(go_simp;with_reducible rfl))⟩), (fun _ => ⟨_, drop_at rfl, by (first|(go_simp;done)|(go_simp;with_reducible rfl))⟩), (fun _ => ⟨_, drop_at rfl, by (first|(go_simp;done)|(go_simp;with_reducible rfl))⟩), trivial⟩
    simp only [Act.put, pA, pB, pC]
    refine ST.p (v := ?v1_11_94_78) rfl rfl rfl (fun W => ?h1_11_94_78) ?r1_11_94_78
    case h1_11_94_78 => (first|(go_simp;done)|(go_simp;with_reducible rfl)|(go_simp;constructor<;>with_reducible rfl))
    simp only [Act.put, pA, pB, pC]
    refine ST.p (v := ?v1_11_95_79) rfl rfl rfl (fun W => ?h1_11_95_79) ?r1_11_95_79
    case h1_11_95_79 => (first|(go_simp;done)|(go_simp;with_reducible rfl)|(go_simp;constructor<;>with_reducible rfl))
    simp only [Act.put, pA, pB, pC]
    simp only [ST]
    go_wp2
    go_ret
    exact ⟨rfl, (show Below w.heap.size w W54 from HF.out 46 _ rfl)⟩
   case' x1_11_88_90 => skip
   refine ST.v (v := ?v1_11_90_91) (w' := ?w1_11_90_91) rfl (by first|rfl|(simp [Region.wanted, yielded, *];done)) ?h1_11_90_91 ?s1_11_90_91 ?r1_11_90_91 ?x1_11_90_91
   case h1_11_90_91 => (first|(go_simp;done)|(go_simp;with_reducible rfl)|(go_simp;constructor<;>with_reducible rfl))
   case s1_11_90_91 => exact ⟨(fun _ => ⟨_, drop_at rfl, by (first|(go_simp;done)|(go_simp;with_reducible rfl))⟩), (fun _ => ⟨_, drop_at rfl, by (first|(go_simp;done)|(go_simp;with_reducible rfl))⟩), (fun _ => ⟨_, drop_at rfl, by (first|(go_simp;done)|(go_simp;with_reducible rfl))⟩), (fun _ => ⟨_, drop_at rfl, by (first|(go_simp;done)|(go_simp;with_reducible rfl))⟩), trivial⟩
   case r1_11_90_91 =>
    simp only [Act.put, pA, pB, pC]
    refine ST.p (v := ?v1_11_91_83) rfl rfl (by first|rfl|(simp [Region.wanted, yielded, *];done)) (fun W => ?h1_11_91_83) ?r1_11_91_83
    case h1_11_91_83 => (first|(go_simp;done)|(go_simp;with_reducible rfl)|(go_simp;constructor<;>with_reducible rfl))
    simp only [Act.put, pA, pB, pC]
    refine ST.v (v := ?v1_11_88_89) (w' := ?w1_11_88_89) rfl (by first|rfl|(simp [Region.wanted, yielded, *];done)) ?h1_11_88_89 ?s1_11_88_89 ?r1_11_88_89 ?x1_11_88_89
    case h1_11_88_89 => (first|(go_simp;done)|(go_simp;with_reducible rfl)|(go_simp;constructor<;>with_reducible rfl))
    case s1_11_88_89 => exact ⟨(fun _ => ⟨_, drop_at rfl, by (first|(go_simp;done)|(go_simp;with_reducible rfl))⟩), (fun _ => ⟨_, drop_at rfl, by (first|(go_simp;done)|(go_simp;with_reducible rfl))⟩), (fun _ => ⟨_, drop_at rfl, by (first|(go_simp;done)|(go_simp;with_reducible rfl))⟩), (fun _ => ⟨_, drop_at rfl, by (first|(go_simp;done)|(go_simp;with_reducible rfl))⟩), trivial⟩
    case x1_11_88_89 => exact ST.stop
    simp only [Act.put, pA, pB, pC]
    refine ST.p (v := ?v1_11_89_84) rfl rfl (by first|rfl|(simp [Region.wanted, yielded, *];done)) (fun W => ?h1_11_89_84) ?r1_11_89_84
    case h1_11_89_84 => (first|(go_simp;done)|(go_simp;with_reducible rfl)|(go_simp;constructor<;>with_reducible rfl))
    simp only [Act.put, pA, pB, pC]
    refine ST.v (v := ?v1_11_92_88) (w' := ?w1_11_92_88) rfl (by first|rfl|(simp [Region.wanted, yielded, *];done)) ?h1_11_92_88 ?s1_11_92_88 ?r1_11_92_88 ?x1_11_92_88
    case h1_11_92_88 => (first|(go_simp;done)|(go_simp;with_reducible rfl)|(go_simp;constructor<;>with_reducible rfl))
    case s1_11_92_88 => exact ⟨(fun _ => ⟨_, drop_at rfl, by (first|(go_simp;done)|(go_simp;with_reducible rfl))⟩), (fun _ => ⟨_, drop_at rfl, by (first|(go_simp;done)|(go_simp;with_reducible rfl))⟩), (fun _ => ⟨_, drop_at rfl, by (first|(go_simp;done)|(go_simp;with_reducible rfl))⟩), (fun _ => ⟨_, drop_at rfl, by (first|(go_simp;done)|(go_simp;with_reducible rfl))⟩), trivial⟩
    case x1_11_92_88 => exact ST.stop
    simp only [Act.put, pA, pB, pC]
    refine ST.c rfl (by first|rfl|(simp [Region.wanted, yielded, *];done)) (by first|(go_simp;done)|(go_simp;with_reducible rfl)|(go_simp;exact ⟨⟨rfl, rfl⟩, rfl⟩)) ?c1_11_93_87 ?x1_11_93_87
    case x1_11_93_87 => exact ST.stop
    clear K0 K1 K2 K3
    clear k00 k01 k02 k0f lk0
    clear k10 k11 k12 k1f lk1
    clear k20 k21 k22 k2f lk2
    clear k30 k31 k32 k3f lk3
    clear hold
    obtain ⟨V53, hV⟩ : ∃ V, (((W52).alloc (.cells #[.int .i64 0] 3)).alloc (.cells #[.int .i64 0] 3)).alloc (.cells #[.int .i64 0, .int .i64 2, .bool true, .slice (some ⟨W52.heap.size + 1, 0, none⟩) 1 1, .int .i64 23, .int .i64 0, .bool false, .slice (some ⟨W52.heap.size, 0, none⟩) 1 1] 27) = V := ⟨_, rfl⟩
    try rw [hV]
    have hb : Below W52.heap.size W52 V53 := by rw [← hV]; (repeat (first|exact bR _ _|assumption|apply bN|apply bA|apply bD))
    have x0 : V53.heap[W52.heap.size]? = some (.cells #[.int .i64 0] 3 (0, 0)) := by rw [← hV]; exact alloc_old (alloc_old (blk_alloc _ _ _ rfl))
    have x1 : V53.heap[W52.heap.size + 1]? = some (.cells #[.int .i64 0] 3 (0, 0)) := by rw [← hV]; exact alloc_old (blk_alloc _ _ _ (by simp))
    have x2 : V53.heap[W52.heap.size + 2]? = some (.cells #[.int .i64 0, .int .i64 2, .bool true, .slice (some ⟨W52.heap.size + 1, 0, none⟩) 1 1, .int .i64 23, .int .i64 0, .bool false, .slice (some ⟨W52.heap.size, 0, none⟩) 1 1] 27 (0, 0)) := by rw [← hV]; exact blk_alloc _ _ _ (by simp)
    clear hV
    replace HF := Lib.hid (HF.out.step hb)
    replace HF := Lib.hid (HF.out.push (.x (W52.heap.size) #[.int .i64 0] 3) x0)
    replace HF := Lib.hid (HF.out.push (.x (W52.heap.size + 1) #[.int .i64 0] 3) x1)
    replace HF := Lib.hid (HF.out.push (.x (W52.heap.size + 2) #[.int .i64 0, .int .i64 2, .bool true, .slice (some ⟨W52.heap.size + 1, 0, none⟩) 1 1, .int .i64 23, .int .i64 0, .bool false, .slice (some ⟨W52.heap.size, 0, none⟩) 1 1] 27) x2)
    clear hb x0 x1 x2
    have hm : RdM V53 (some ⟨W52.heap.size + 2, 0, none⟩) exF := by
      refine Rd.blk [[.int .i64 0, .int .i64 2, .bool true, .slice (some ⟨W52.heap.size + 1, 0, none⟩) 1 1], [.int .i64 23, .int .i64 0, .bool false, .slice (some ⟨W52.heap.size, 0, none⟩) 1 1]] (show V53.heap[W52.heap.size + 2]? = some (.cells #[.int .i64 0, .int .i64 2, .bool true, .slice (some ⟨W52.heap.size + 1, 0, none⟩) 1 1, .int .i64 23, .int .i64 0, .bool false, .slice (some ⟨W52.heap.size, 0, none⟩) 1 1] 27 (0, 0)) from HF.out 0 _ rfl) rfl (by decide) rfl (by simp) fun k x cs hx hc => ?_
      rcases k with _ | _ | k
      · cases hx; cases hc; exact ⟨_, _, rfl, Nat.le_refl _, RdI.blk [0] (show V53.heap[W52.heap.size + 1]? = some (.cells #[.int .i64 0] 3 (0, 0)) from HF.out 1 _ rfl) rfl (by decide)⟩
      · cases hx; cases hc; exact ⟨_, _, rfl, Nat.le_refl _, RdI.blk [0] (show V53.heap[W52.heap.size]? = some (.cells #[.int .i64 0] 3 (0, 0)) from HF.out 2 _ rfl) rfl (by decide)⟩
      · simp at hc
    replace HF := Lib.hid (HF.out.push (.m ((some ⟨W52.heap.size + 2, 0, none⟩)) exF) hm)
    clear hm
    have hc := rEqual_any A12 (some ⟨W52.heap.size + 2, 0, none⟩) 2 2 c12 2 exF exF V53 (show RdM V53 (A12) exF from HF.out 13 _ rfl) (show RdM V53 ((some ⟨W52.heap.size + 2, 0, none⟩)) exF from HF.out 0 _ rfl) rfl rfl
    rw [decide_eq_true rfl] at hc
    refine hc.mono ?_
    clear hc
    rintro e W54 ⟨rfl, hb⟩
    replace HF := Lib.hid (HF.out.step hb)
    clear hb
    obtain ⟨k00, k01, k02, k0f, lk0⟩ := HF.out.box 41 rfl
    obtain ⟨k10, k11, k12, k1f, lk1⟩ := HF.out.box 32 rfl
    obtain ⟨k20, k21, k22, k2f, lk2⟩ := HF.out.box 29 rfl
    obtain ⟨k30, k31, k32, k3f, lk3⟩ := HF.out.box 35 rfl
    have hold := olds W54
    have K0 : ∀ x y z o, (((W54.alloc x).alloc y).alloc z).cell? ⟨W3.heap.size, o, none⟩ = W54.cell? ⟨W3.heap.size, o, none⟩ := fun x y z o => by rw [hold _ _ _ _ lk0 (by first|(simp;done)|(simp;omega)|omega), hold _ _ _ _ lk0 (by first|(simp;done)|(simp;omega)|omega), hold _ _ _ _ lk0 (by first|(simp;done)|(simp;omega)|omega)]
    have K1 : ∀ x y z o, (((W54.alloc x).alloc y).alloc z).cell? ⟨W13.heap.size, o, none⟩ = W54.cell? ⟨W13.heap.size, o, none⟩ := fun x y z o => by rw [hold _ _ _ _ lk1 (by first|(simp;done)|(simp;omega)|omega), hold _ _ _ _ lk1 (by first|(simp;done)|(simp;omega)|omega), hold _ _ _ _ lk1 (by first|(simp;done)|(simp;omega)|omega)]
    have K2 : ∀ x y z o, (((W54.alloc x).alloc y).alloc z).cell? ⟨W15.heap.size, o, none⟩ = W54.cell? ⟨W15.heap.size, o, none⟩ := fun x y z o => by rw [hold _ _ _ _ lk2 (by first|(simp;done)|(simp;omega)|omega), hold _ _ _ _ lk2 (by first|(simp;done)|(simp;omega)|omega), hold _ _ _ _ lk2 (by first|(simp;done)|(simp;omega)|omega)]
    have K3 : ∀ x y z o, (((W54.alloc x).alloc y).alloc z).cell? ⟨W11.heap.size, o, none⟩ = W54.cell? ⟨W11.heap.size, o, none⟩ := fun x y z o => by rw [hold _ _ _ _ lk3 (by first|(simp;done)|(simp;omega)|omega), hold _ _ _ _ lk3 (by first|(simp;done)|(simp;omega)|omega), hold _ _ _ _ lk3 (by first|(simp;done)|(simp;omega)|omega)]
    refine ⟨_, rfl, ?_, ?_⟩
    · exact ⟨(fun _ => ⟨_, drop_at rfl, by (first|(go_simp;done)|(go_simp;with_reducible rfl))⟩), (fun _ => ⟨_, drop_at rfl, by (first|(go_simp;done)|(go_simp;with_reducible rfl))⟩), (fun _ => ⟨_, drop_at rfl, by (first|(go_simp;done)|(go_simp;with_reducible rfl))⟩), (fun _ => ⟨_, drop_at rfl, by (first|(go_simp;done)|(go_simp;with_reducible rfl))⟩), trivial⟩
    simp only [Act.put, pA, pB, pC]
    refine ST.p (v := ?v1_11_94_85) rfl rfl rfl (fun W => ?h1_11_94_85) ?r1_11_94_85
    case h1_11_94_85 => (first|(go_simp;done)|(go_simp;with_reducible rfl)|(go_simp;constructor<;>with_reducible rfl))
    simp only [Act.put, pA, pB, pC]
    refine ST.p (v := ?v1_11_95_86) rfl rfl rfl (fun W => ?h1_11_95_86) ?r1_11_95_86
    case h1_11_95_86 => (first|(go_simp;done)|(go_simp;with_reducible rfl)|(go_simp;constructor<;>with_reducible rfl))
    simp only [Act.put, pA, pB, pC]
    simp only [ST]
    go_wp2
    go_ret
    exact ⟨rfl, (show Below w.heap.size w W54 from HF.out 46 _ rfl)⟩
   case x1_11_90_91 => exact ST.stop
  case' x1_11_79_119 => skip
  refine ST.v (v := ?v1_11_81_120) (w' := ?w1_11_81_120) rfl (by first|rfl|(simp [Region.wanted, yielded, *];done)) ?h1_11_81_120 ?s1_11_81_120 ?r1_11_81_120 ?x1_11_81_120
  case h1_11_81_120 => (first|(go_simp;done)|(go_simp;with_reducible rfl)|(go_simp;constructor<;>with_reducible rfl))
  case s1_11_81_120 => exact ⟨(fun _ => ⟨_, drop_at rfl, by (first|(go_simp;done)|(go_simp;with_reducible rfl))⟩), (fun _ => ⟨_, drop_at rfl, by (first|(go_simp;done)|(go_simp;with_reducible rfl))⟩), (fun _ => ⟨_, drop_at rfl, by (first|(go_simp;done)|(go_simp;with_reducible rfl))⟩), (fun _ => ⟨_, drop_at rfl, by (first|(go_simp;done)|(go_simp;with_reducible rfl))⟩), trivial⟩
  case r1_11_81_120 =>
   simp only [Act.put, pA, pB, pC]
   refine ST.p (v := ?v1_11_82_95) rfl rfl (by first|rfl|(simp [Region.wanted, yielded, *];done)) (fun W => ?h1_11_82_95) ?r1_11_82_95
   case h1_11_82_95 => (first|(go_simp;done)|(go_simp;with_reducible rfl)|(go_simp;constructor<;>with_reducible rfl))
   simp only [Act.put, pA, pB, pC]
   refine ST.v (v := ?v1_11_79_118) (w' := ?w1_11_79_118) rfl (by first|rfl|(simp [Region.wanted, yielded, *];done)) ?h1_11_79_118 ?s1_11_79_118 ?r1_11_79_118 ?x1_11_79_118
   case h1_11_79_118 => (first|(go_simp;done)|(go_simp;with_reducible rfl)|(go_simp;constructor<;>with_reducible rfl))
   case s1_11_79_118 => exact ⟨(fun _ => ⟨_, drop_at rfl, by (first|(go_simp;done)|(go_simp;with_reducible rfl))⟩), (fun _ => ⟨_, drop_at rfl, by (first|(go_simp;done)|(go_simp;with_reducible rfl))⟩), (fun _ => ⟨_, drop_at rfl, by (first|(go_simp;done)|(go_simp;with_reducible rfl))⟩), (fun _ => ⟨_, drop_at rfl, by (first|(go_simp;done)|(go_simp;with_reducible rfl))⟩), trivial⟩
   case x1_11_79_118 => exact ST.stop
   simp only [Act.put, pA, pB, pC]
   refine ST.p (v := ?v1_11_80_96) rfl rfl (by first|rfl|(simp [Region.wanted, yielded, *];done)) (fun W => ?h1_11_80_96) ?r1_11_80_96
   case h1_11_80_96 => (first|(go_simp;done)|(go_simp;with_reducible rfl)|(go_simp;constructor<;>with_reducible rfl))
   simp only [Act.put, pA, pB, pC]
   refine ST.v (v := ?v1_11_83_117) (w' := ?w1_11_83_117) rfl (by first|rfl|(simp [Region.wanted, yielded, *];done)) ?h1_11_83_117 ?s1_11_83_117 ?r1_11_83_117 ?x1_11_83_117
   case h1_11_83_117 => (first|(go_simp;done)|(go_simp;with_reducible rfl)|(go_simp;constructor<;>with_reducible rfl))
   case s1_11_83_117 => exact ⟨(fun _ => ⟨_, drop_at rfl, by (first|(go_simp;done)|(go_simp;with_reducible rfl))⟩), (fun _ => ⟨_, drop_at rfl, by (first|(go_simp;done)|(go_simp;with_reducible rfl))⟩), (fun _ => ⟨_, drop_at rfl, by (first|(go_simp;done)|(go_simp;with_reducible rfl))⟩), (fun _ => ⟨_, drop_at rfl, by (first|(go_simp;done)|(go_simp;with_reducible rfl))⟩), trivial⟩
   case x1_11_83_117 => exact ST.stop
   simp only [Act.put, pA, pB, pC]
   refine ST.c rfl (by first|rfl|(simp [Region.wanted, yielded, *];done)) (by first|(go_simp;done)|(go_simp;with_reducible rfl)|(go_simp;exact ⟨⟨rfl, rfl⟩, rfl⟩)) ?c1_11_84_116 ?x1_11_84_116
   case x1_11_84_116 => exact ST.stop
   clear K0 K1 K2 K3
   clear k00 k01 k02 k0f lk0
   clear k10 k11 k12 k1f lk1
   clear k20 k21 k22 k2f lk2
   clear k30 k31 k32 k3f lk3
   clear hold
   obtain ⟨V51, hV⟩ : ∃ V, (((W50).alloc (.cells #[.int .i64 0, .int .i64 1] 3)).alloc (.cells #[.int .i64 0, .int .i64 1] 3)).alloc (.cells #[.int .i64 9, .int .i64 0, .bool true, .slice (some ⟨W50.heap.size + 1, 0, none⟩) 2 2, .int .i64 33, .int .i64 0, .bool true, .slice (some ⟨W50.heap.size, 0, none⟩) 2 2] 27) = V := ⟨_, rfl⟩
   try rw [hV]
   have hb : Below W50.heap.size W50 V51 := by rw [← hV]; (repeat (first|exact bR _ _|assumption|apply bN|apply bA|apply bD))
   have x0 : V51.heap[W50.heap.size]? = some (.cells #[.int .i64 0, .int .i64 1] 3 (0, 0)) := by rw [← hV]; exact alloc_old (alloc_old (blk_alloc _ _ _ rfl))
   have x1 : V51.heap[W50.heap.size + 1]? = some (.cells #[.int .i64 0, .int .i64 1] 3 (0, 0)) := by rw [← hV]; exact alloc_old (blk_alloc _ _ _ (by simp))
   have x2 : V51.heap[W50.heap.size + 2]? = some (.cells #[.int .i64 9, .int .i64 0, .bool true, .slice (some ⟨W50.heap.size + 1, 0, none⟩) 2 2, .int .i64 33, .int .i64 0, .bool true, .slice (some ⟨W50.heap.size, 0, none⟩) 2 2] 27 (0, 0)) := by rw [← hV]; exact blk_alloc _ _ _ (by simp)
   clear hV
   replace HF := Lib.hid (HF.out.step hb)
   replace HF := Lib.hid (HF.out.push (.x (W50.heap.size) #[.int .i64 0, .int .i64 1] 3) x0)
   replace HF := Lib.hid (HF.out.push (.x (W50.heap.size + 1) #[.int .i64 0, .int .i64 1] 3) x1)
   replace HF := Lib.hid (HF.out.push (.x (W50.heap.size + 2) #[.int .i64 9, .int .i64 0, .bool true, .slice (some ⟨W50.heap.size + 1, 0, none⟩) 2 2, .int .i64 33, .int .i64 0, .bool true, .slice (some ⟨W50.heap.size, 0, none⟩) 2 2] 27) x2)
   clear hb x0 x1 x2
   have hm : RdM V51 (some ⟨W50.heap.size + 2, 0, none⟩) exI := by
     refine Rd.blk [[.int .i64 9, .int .i64 0, .bool true, .slice (some ⟨W50.heap.size + 1, 0, none⟩) 2 2], [.int .i64 33, .int .i64 0, .bool true, .slice (some ⟨W50.heap.size, 0, none⟩) 2 2]] (show V51.heap[W50.heap.size + 2]? = some (.cells #[.int .i64 9, .int .i64 0, .bool true, .slice (some ⟨W50.heap.size + 1, 0, none⟩) 2 2, .int .i64 33, .int .i64 0, .bool true, .slice (some ⟨W50.heap.size, 0, none⟩) 2 2] 27 (0, 0)) from HF.out 0 _ rfl) rfl (by decide) rfl (by simp) fun k x cs hx hc => ?_
     rcases k with _ | _ | k
     · cases hx; cases hc; exact ⟨_, _, rfl, Nat.le_refl _, RdI.blk [0, 1] (show V51.heap[W50.heap.size + 1]? = some (.cells #[.int .i64 0, .int .i64 1] 3 (0, 0)) from HF.out 1 _ rfl) rfl (by decide)⟩
     · cases hx; cases hc; exact ⟨_, _, rfl, Nat.le_refl _, RdI.blk [0, 1] (show V51.heap[W50.heap.size]? = some (.cells #[.int .i64 0, .int .i64 1] 3 (0, 0)) from HF.out 2 _ rfl) rfl (by decide)⟩
     · simp at hc
   replace HF := Lib.hid (HF.out.push (.m ((some ⟨W50.heap.size + 2, 0, none⟩)) exI) hm)
   clear hm
   have hc := rEqual_any A11 (some ⟨W50.heap.size + 2, 0, none⟩) 2 2 c11 2 exI exI V51 (show RdM V51 (A11) exI from HF.out 18 _ rfl) (show RdM V51 ((some ⟨W50.heap.size + 2, 0, none⟩)) exI from HF.out 0 _ rfl) rfl rfl
   rw [decide_eq_true rfl] at hc
   refine hc.mono ?_
   clear hc
   rintro e W52 ⟨rfl, hb⟩
   replace HF := Lib.hid (HF.out.step hb)
   clear hb
   obtain ⟨k00, k01, k02, k0f, lk0⟩ := HF.out.box 37 rfl
   obtain ⟨k10, k11, k12, k1f, lk1⟩ := HF.out.box 28 rfl
   obtain ⟨k20, k21, k22, k2f, lk2⟩ := HF.out.box 25 rfl
   obtain ⟨k30, k31, k32, k3f, lk3⟩ := HF.out.box 31 rfl
   have hold := olds W52
   have K0 : ∀ x y z o, (((W52.alloc x).alloc y).alloc z).cell? ⟨W3.heap.size, o, none⟩ = W52.cell? ⟨W3.heap.size, o, none⟩ := fun x y z o => by rw [hold _ _ _ _ lk0 (by first|(simp;done)|(simp;omega)|omega), hold _ _ _ _ lk0 (by first|(simp;done)|(simp;omega)|omega), hold _ _ _ _ lk0 (by first|(simp;done)|(simp;omega)|omega)]
   have K1 : ∀ x y z o, (((W52.alloc x).alloc y).alloc z).cell? ⟨W13.heap.size, o, none⟩ = W52.cell? ⟨W13.heap.size, o, none⟩ := fun x y z o => by rw [hold _ _ _ _ lk1 (by first|(simp;done)|(simp;omega)|omega), hold _ _ _ _ lk1 (by first|(simp;done)|(simp;omega)|omega), hold _ _ _ _ lk1 (by first|(simp;done)|(simp;omega)|omega)]
   have K2 : ∀ x y z o, (((W52.alloc x).alloc y).alloc z).cell? ⟨W15.heap.size, o, none⟩ = W52.cell? ⟨W15.heap.size, o, none⟩ := fun x y z o => by rw [hold _ _ _ _ lk2 (by first|(simp;done)|(simp;omega)|omega), hold _ _ _ _ lk2 (by first|(simp;done)|(simp;omega)|omega), hold _ _ _ _ lk2 (by first|(simp;done)|(simp;omega)|omega)]
   have K3 : ∀ x y z o, (((W52.alloc x).alloc y).alloc z).cell? ⟨W11.heap.size, o, none⟩ = W52.cell? ⟨W11.heap.size, o, none⟩ := fun x y z o => by rw [hold _ _ _ _ lk3 (by first|(simp;done)|(simp;omega)|omega), hold _ _ _ _ lk3 (by first|(simp;done)|(simp;omega)|omega), hold _ _ _ _ lk3 (by first|(simp;done)|(simp;omega)|omega)]
   refine ⟨_, rfl, ?_, ?_⟩
   · exact ⟨(fun _ => ⟨_, drop_at rfl, by (first|(go_simp;done)|(go_simp;with_reducible rfl))⟩), (fun _ => ⟨_, drop_at rfl, by (first|(go_simp;done)|(go_simp;with_reducible rfl))⟩), (fun _ => ⟨_, drop_at rfl, by (first|(go_simp;done)|(go_simp;with_reducible rfl))⟩), (fun _ => ⟨_, drop_at rfl, by (first|(go_simp;done)|(go_simp;with_reducible rfl))⟩), trivial⟩
   simp only [Act.put, pA, pB, pC]
   refine ST.p (v := ?v1_11_85_97) rfl rfl rfl (fun W => ?h1_11_85_97) ?r1_11_85_97
   case h1_11_85_97 => (first|(go_simp;done)|(go_simp;with_reducible rfl)|(go_simp;constructor<;>with_reducible rfl))
   simp only [Act.put, pA, pB, pC]
   refine ST.p (v := ?v1_11_86_98) rfl rfl rfl (fun W => ?h1_11_86_98) ?r1_11_86_98
   case h1_11_86_98 => (first|(go_simp;done)|(go_simp;with_reducible rfl)|(go_simp;constructor<;>with_reducible rfl))
   simp only [Act.put, pA, pB, pC]
   refine ST.p (v := ?v1_11_87_99) rfl rfl (by first|rfl|(simp [Region.wanted, yielded, *];done)) (fun W => ?h1_11_87_99) ?r1_11_87_99
   case h1_11_87_99 => (first|(go_simp;done)|(go_simp;with_reducible rfl)|(go_simp;constructor<;>with_reducible rfl))
   simp only [Act.put, pA, pB, pC]
   refine ST.v (v := ?v1_11_88_114) (w' := ?w1_11_88_114) rfl (by first|rfl|(simp [Region.wanted, yielded, *];done)) ?h1_11_88_114 ?s1_11_88_114 ?r1_11_88_114 ?x1_11_88_114
   case h1_11_88_114 => (first|(go_simp;done)|(go_simp;with_reducible rfl)|(go_simp;constructor<;>with_reducible rfl))
   case s1_11_88_114 => exact ⟨(fun _ => ⟨_, drop_at rfl, by (first|(go_simp;done)|(go_simp;with_reducible rfl))⟩), (fun _ => ⟨_, drop_at rfl, by (first|(go_simp;done)|(go_simp;with_reducible rfl))⟩), (fun _ => ⟨_, drop_at rfl, by (first|(go_simp;done)|(go_simp;with_reducible rfl))⟩), (fun _ => ⟨_, drop_at rfl, by (first|(go_simp;done)|(go_simp;with_reducible rfl))⟩), trivial⟩
   case r1_11_88_114 =>
    simp only [Act.put, pA, pB, pC]
    refine ST.p (v := ?v1_11_89_100) rfl rfl (by first|rfl|(simp [Region.wanted, yielded, *];done)) (fun W => ?h1_11_89_100) ?r1_11_89_100
    case h1_11_89_100 => (first|(go_simp;done)|(go_simp;with_reducible rfl)|(go_simp;constructor<;>with_reducible rfl))
    simp only [Act.put, pA, pB, pC]
    refine ST.v (v := ?v1_11_90_106) (w' := ?w1_11_90_106) rfl (by first|rfl|(simp [Region.wanted, yielded, *];done)) ?h1_11_90_106 ?s1_11_90_106 ?r1_11_90_106 ?x1_11_90_106
    case h1_11_90_106 => (first|(go_simp;done)|(go_simp;with_reducible rfl)|(go_simp;constructor<;>with_reducible rfl))
    case s1_11_90_106 => exact ⟨(fun _ => ⟨_, drop_at rfl, by (first|(go_simp;done)|(go_simp;with_reducible rfl))⟩), (fun _ => ⟨_, drop_at rfl, by (first|(go_simp;done)|(go_simp;with_reducible rfl))⟩), (fun _ => ⟨_, drop_at rfl, by (first|(go_simp;done)|(go_simp;with_reducible rfl))⟩), (fun _ => ⟨_, drop_at rfl, by (first|(go_simp;done)|(go_simp;with_reducible rfl))⟩), trivial⟩
    case x1_11_90_106 => exact ST.stop
    simp only [Act.put, pA, pB, pC]
    refine ST.p (v := ?v1_11_91_101) rfl rfl (by first|rfl|(simp [Region.wanted, yielded, *];done)) (fun W => ?h1_11_91_101) ?r1_11_91_101
    case h1_11_91_101 => (first|(go_simp;done)|(go_simp;with_reducible rfl)|(go_simp;constructor<;>with_reducible rfl))
    simp only [Act.put, pA, pB, pC]
    refine ST.v (v := ?v1_11_92_105) (w' := ?w1_11_92_105) rfl (by first|rfl|(simp [Region.wanted, yielded, *];done)) ?h1_11_92_105 ?s1_11_92_105 ?r1_11_92_105 ?x1_11_92_105
    case h1_11_92_105 => (first|(go_simp;done)|(go_simp;with_reducible rfl)|(go_simp;constructor<;>with_reducible rfl))
    case s1_11_92_105 => exact ⟨(fun _ => ⟨_, drop_at rfl, by (first|(go_simp;done)|(go_simp;with_reducible rfl))⟩), (fun _ => ⟨_, drop_at rfl, by (first|(go_simp;done)|(go_simp;with_reducible rfl))⟩), (fun _ => ⟨_, drop_at rfl, by (first|(go_simp;done)|(go_simp;with_reducible rfl))⟩), (fun _ => ⟨_, drop_at rfl, by (first|(go_simp;done)|(go_simp;with_reducible rfl))⟩), trivial⟩
    case x1_11_92_105 => exact ST.stop
    simp only [Act.put, pA, pB, pC]
    refine ST.c rfl (by first|rfl|(simp [Region.wanted, yielded, *];done)) (by first|(go_simp;done)|(go_simp;with_reducible rfl)|(go_simp;exact ⟨⟨rfl, rfl⟩, rfl⟩)) ?c1_11_93_104 ?x1_11_93_104
    case x1_11_93_104 => exact ST.stop
    clear K0 K1 K2 K3
    clear k00 k01 k02 k0f lk0
    clear k10 k11 k12 k1f lk1
    clear k20 k21 k22 k2f lk2
    clear k30 k31 k32 k3f lk3
    clear hold
    obtain ⟨V53, hV⟩ : ∃ V, (((W52).alloc (.cells #[.int .i64 0] 3)).alloc (.cells #[.int .i64 0] 3)).alloc (.cells #[.int .i64 0, .int .i64 2, .bool true, .slice (some ⟨W52.heap.size, 0, none⟩) 1 1, .int .i64 23, .int .i64 0, .bool false, .slice (some ⟨W52.heap.size + 1, 0, none⟩) 1 1] 27) = V := ⟨_, rfl⟩
    try rw [hV]
    have hb : Below W52.heap.size W52 V53 := by rw [← hV]; (repeat (first|exact bR _ _|assumption|apply bN|apply bA|apply bD))
    have x0 : V53.heap[W52.heap.size]? = some (.cells #[.int .i64 0] 3 (0, 0)) := by rw [← hV]; exact alloc_old (alloc_old (blk_alloc _ _ _ rfl))
    have x1 : V53.heap[W52.heap.size + 1]? = some (.cells #[.int .i64 0] 3 (0, 0)) := by rw [← hV]; exact alloc_old (blk_alloc _ _ _ (by simp))
    have x2 : V53.heap[W52.heap.size + 2]? = some (.cells #[.int .i64 0, .int .i64 2, .bool true, .slice (some ⟨W52.heap.size, 0, none⟩) 1 1, .int .i64 23, .int .i64 0, .bool false, .slice (some ⟨W52.heap.size + 1, 0, none⟩) 1 1] 27 (0, 0)) := by rw [← hV]; exact blk_alloc _ _ _ (by simp)
    clear hV
    replace HF := Lib.hid (HF.out.step hb)
    replace HF := Lib.hid (HF.out.push (.x (W52.heap.size) #[.int .i64 0] 3) x0)
    replace HF := Lib.hid (HF.out.push (.x (W52.heap.size + 1) #[.int .i64 0] 3) x1)
    replace HF := Lib.hid (HF.out.push (.x (W52.heap.size + 2) #[.int .i64 0, .int .i64 2, .bool true, .slice (some ⟨W52.heap.size, 0, none⟩) 1 1, .int .i64 23, .int .i64 0, .bool false, .slice (some ⟨W52.heap.size + 1, 0, none⟩) 1 1] 27) x2)
    clear hb x0 x1 x2
    have hm : RdM V53 (some ⟨W52.heap.size + 2, 0, none⟩) exF := by
      refine Rd.blk [[.int .i64 0, .int .i64 2, .bool true, .slice (some ⟨W52.heap.size, 0, none⟩) 1 1], [.int .i64 23, .int .i64 0, .bool false, .slice (some ⟨W52.heap.size + 1, 0, none⟩) 1 1]] (show V53.heap[W52.heap.size + 2]? = some (.cells #[.int .i64 0, .int .i64 2, .bool true, .slice (some ⟨W52.heap.size, 0, none⟩) 1 1, .int .i64 23, .int .i64 0, .bool false, .slice (some ⟨W52.heap.size + 1, 0, none⟩) 1 1] 27 (0, 0)) from HF.out 0 _ rfl) rfl (by decide) rfl (by simp) fun k x cs hx hc => ?_
      rcases k with _ | _ | k
      · cases hx; cases hc; exact ⟨_, _, rfl, Nat.le_refl _, RdI.blk [0] (show V53.heap[W52.heap.size]? = some (.cells #[.int .i64 0] 3 (0, 0)) from HF.out 2 _ rfl) rfl (by decide)⟩
      · cases hx; cases hc; exact ⟨_, _, rfl, Nat.le_refl _, RdI.blk [0] (show V53.heap[W52.heap.size + 1]? = some (.cells #[.int .i64 0] 3 (0, 0)) from HF.out 1 _ rfl) rfl (by decide)⟩
      · simp at hc
    replace HF := Lib.hid (HF.out.push (.m ((some ⟨W52.heap.size + 2, 0, none⟩)) exF) hm)
    clear hm
    have hc := rEqual_any A12 (some ⟨W52.heap.size + 2, 0, none⟩) 2 2 c12 2 exF exF V53 (show RdM V53 (A12) exF from HF.out 13 _ rfl) (show RdM V53 ((some ⟨W52.heap.size + 2, 0, none⟩)) exF from HF.out 0 _ rfl) rfl rfl
    rw [decide_eq_true rfl] at hc
    refine hc.mono ?_
    clear hc
    rintro e W54 ⟨rfl, hb⟩
    replace HF := Lib.hid (HF.out.step hb)
    clear hb
    obtain ⟨k00, k01, k02, k0f, lk0⟩ := HF.out.box 41 rfl
    obtain ⟨k10, k11, k12, k1f, lk1⟩ := HF.out.box 32 rfl
    obtain ⟨k20, k21, k22, k2f, lk2⟩ := HF.out.box 29 rfl
    obtain ⟨k30, k31, k32, k3f, lk3⟩ := HF.out.box 35 rfl
    have hold := olds W54
    have K0 : ∀ x y z o, (((W54.alloc x).alloc y).alloc z).cell? ⟨W3.heap.size, o, none⟩ = W54.cell? ⟨W3.heap.size, o, none⟩ := fun x y z o => by rw [hold _ _ _ _ lk0 (by first|(simp;done)|(simp;omega)|omega), hold _ _ _ _ lk0 (by first|(simp;done)|(simp;omega)|omega), hold _ _ _ _ lk0 (by first|(simp;done)|(simp;omega)|omega)]
    have K1 : ∀ x y z o, (((W54.alloc x).alloc y).alloc z).cell? ⟨W13.heap.size, o, none⟩ = W54.cell? ⟨W13.heap.size, o, none⟩ := fun x y z o => by rw [hold _ _ _ _ lk1 (by first|(simp;done)|(simp;omega)|omega), hold _ _ _ _ lk1 (by first|(simp;done)|(simp;omega)|omega), hold _ _ _ _ lk1 (by first|(simp;done)|(simp;omega)|omega)]
    have K2 : ∀ x y z o, (((W54.alloc x).alloc y).alloc z).cell? ⟨W15.heap.size, o, none⟩ = W54.cell? ⟨W15.heap.size, o, none⟩ := fun x y z o => by rw [hold _ _ _ _ lk2 (by first|(simp;done)|(simp;omega)|omega), hold _ _ _ _ lk2 (by first|(simp;done)|(simp;omega)|omega), hold _ _ _ _ lk2 (by first|(simp;done)|(simp;omega)|omega)]
    have K3 : ∀ x y z o, (((W54.alloc x).alloc y).alloc z).cell? ⟨W11.heap.size, o, none⟩ = W54.cell? ⟨W11.heap.size, o, none⟩ := fun x y z o => by rw [hold _ _ _ _ lk3 (by first|(simp;done)|(simp;omega)|omega), hold _ _ _ _ lk3 (by first|(simp;done)|(simp;omega)|omega), hold _ _ _ _ lk3 (by first|(simp;done)|(simp;omega)|omega)]
    refine ⟨_, rfl, ?_, ?_⟩
    · exact ⟨(fun _ => ⟨_, drop_at rfl, by (first|(go_simp;done)|(go_simp;with_reducible rfl))⟩), (fun _ => ⟨_, drop_at rfl, by (first|(go_simp;done)|(go_simp;with_reducible rfl))⟩), (fun _ => ⟨_, drop_at rfl, by (first|(go_simp;done)|(go_simp;with_reducible rfl))⟩), (fun _ => ⟨_, drop_at rfl, by (first|(go_simp;done)|(go_simp;with_reducible rfl))⟩), trivial⟩
    simp only [Act.put, pA, pB, pC]
    refine ST.p (v := ?v1_11_94_102) rfl rfl rfl (fun W => ?h1_11_94_102) ?r1_11_94_102
    case h1_11_94_102 => (first|(go_simp;done)|(go_simp;with_reducible rfl)|(go_simp;constructor<;>with_reducible rfl))
    simp only [Act.put, pA, pB, pC]
    refine ST.p (v := ?v1_11_95_103) rfl rfl rfl (fun W => ?h1_11_95_103) ?r1_11_95_103
    case h1_11_95_103 => (first|(go_simp;done)|(go_simp;with_reducible rfl)|(go_simp;constructor<;>with_reducible rfl))
    simp only [Act.put, pA, pB, pC]
    simp only [ST]
    go_wp2
    go_ret
    exact ⟨rfl, (show Below w.heap.size w W54 from HF.out 46 _ rfl)⟩
   case' x1_11_88_114 => skip
   refine ST.v (v := ?v1_11_90_115) (w' := ?w1_11_90_115) rfl (by first|rfl|(simp [Region.wanted, yielded, *];done)) ?h1_11_90_115 ?s1_11_90_115 ?r1_11_90_115 ?x1_11_90_115
   case h1_11_90_115 => (first|(go_simp;done)|(go_simp;with_reducible rfl)|(go_simp;constructor<;>with_reducible rfl))
   case s1_11_90_115 => exact ⟨(fun _ => ⟨_, drop_at rfl, by (first|(go_simp;done)|(go_simp;with_reducible rfl))⟩), (fun _ => ⟨_, drop_at rfl, by (first|(go_simp;done)|(go_simp;with_reducible rfl))⟩), (fun _ => ⟨_, drop_at rfl, by (first|(go_simp;done)|(go_simp;with_reducible rfl))⟩), (fun _ => ⟨_, drop_at rfl, by (first|(go_simp;done)|(go_simp;with_reducible rfl))⟩), trivial⟩
   case r1_11_90_115 =>
    simp only [Act.put, pA, pB, pC]
    refine ST.p (v := ?v1_11_91_107) rfl rfl (by first|rfl|(simp [Region.wanted, yielded, *];done)) (fun W => ?h1_11_91_107) ?r1_11_91_107
    case h1_11_91_107 => (first|(go_simp;done)|(go_simp;with_reducible rfl)|(go_simp;constructor<;>with_reducible rfl))
    simp only [Act.put, pA, pB, pC]
    refine ST.v (v := ?v1_11_88_113) (w' := ?w1_11_88_113) rfl (by first|rfl|(simp [Region.wanted, yielded, *];done)) ?h1_11_88_113 ?s1_11_88_113 ?r1_11_88_113 ?x1_11_88_113
    case h1_11_88_113 => (first|(go_simp;done)|(go_simp;with_reducible rfl)|(go_simp;constructor<;>with_reducible rfl))
    case s1_11_88_113 => exact ⟨(fun _ => ⟨_, drop_at rfl, by (first|(go_simp;done)|(go_simp;with_reducible rfl))⟩), (fun _ => ⟨_, drop_at rfl, by (first|(go_simp;done)|(go_simp;with_reducible rfl))⟩), (fun _ => ⟨_, drop_at rfl, by (first|(go_simp;done)|(go_simp;with_reducible rfl))⟩), (fun _ => ⟨_, drop_at rfl, by (first|(go_simp;done)|(go_simp;with_reducible rfl))⟩), trivial⟩
    case x1_11_88_113 => exact ST.stop
    simp only [Act.put, pA, pB, pC]
    refine ST.p (v := ?v1_11_89_108) rfl rfl (by first|rfl|(simp [Region.wanted, yielded, *];done)) (fun W => ?h1_11_89_108) ?r1_11_89_108
    case h1_11_89_108 => (first|(go_simp;done)|(go_simp;with_reducible rfl)|(go_simp;constructor<;>with_reducible rfl))
    simp only [Act.put, pA, pB, pC]
    refine ST.v (v := ?v1_11_92_112) (w' := ?w1_11_92_112) rfl (by first|rfl|(simp [Region.wanted, yielded, *];done)) ?h1_11_92_112 ?s1_11_92_112 ?r1_11_92_112 ?x1_11_92_112
    case h1_11_92_112 => (first|(go_simp;done)|(go_simp;with_reducible rfl)|(go_simp;constructor<;>with_reducible rfl))
    case s1_11_92_112 => exact ⟨(fun _ => ⟨_, drop_at rfl, by (first|(go_simp;done)|(go_simp;with_reducible rfl))⟩), (fun _ => ⟨_, drop_at rfl, by (first|(go_simp;done)|(go_simp;with_reducible rfl))⟩), (fun _ => ⟨_, drop_at rfl, by (first|(go_simp;done)|(go_simp;with_reducible rfl))⟩), (fun _ => ⟨_, drop_at rfl, by (first|(go_simp;done)|(go_simp;with_reducible rfl))⟩), trivial⟩
    case x1_11_92_112 => exact ST.stop
    simp only [Act.put, pA, pB, pC]
    refine ST.c rfl (by first|rfl|(simp [Region.wanted, yielded, *];done)) (by first|(go_simp;done)|(go_simp;with_reducible rfl)|(go_simp;exact ⟨⟨rfl, rfl⟩, rfl⟩)) ?c1_11_93_111 ?x1_11_93_111
    case x1_11_93_111 => exact ST.stop
    clear K0 K1 K2 K3
    clear k00 k01 k02 k0f lk0
    clear k10 k11 k12 k1f lk1
    clear k20 k21 k22 k2f lk2
    clear k30 k31 k32 k3f lk3
    clear hold
    obtain ⟨V53, hV⟩ : ∃ V, (((W52).alloc (.cells #[.int .i64 0] 3)).alloc (.cells #[.int .i64 0] 3)).alloc (.cells #[.int .i64 0, .int .i64 2, .bool true, .slice (some ⟨W52.heap.size + 1, 0, none⟩) 1 1, .int .i64 23, .int .i64 0, .bool false, .slice (some ⟨W52.heap.size, 0, none⟩) 1 1] 27) = V := ⟨_, rfl⟩
    try rw [hV]
    have hb : Below W52.heap.size W52 V53 := by rw [← hV]; (repeat (first|exact bR _ _|assumption|apply bN|apply bA|apply bD))
    have x0 : V53.heap[W52.heap.size]? = some (.cells #[.int .i64 0] 3 (0, 0)) := by rw [← hV]; exact alloc_old (alloc_old (blk_alloc _ _ _ rfl))
    have x1 : V53.heap[W52.heap.size + 1]? = some (.cells #[.int .i64 0] 3 (0, 0)) := by rw [← hV]; exact alloc_old (blk_alloc _ _ _ (by simp))
    have x2 : V53.heap[W52.heap.size + 2]? = some (.cells #[.int .i64 0, .int .i64 2, .bool true, .slice (some ⟨W52.heap.size + 1, 0, none⟩) 1 1, .int .i64 23, .int .i64 0, .bool false, .slice (some ⟨W52.heap.size, 0, none⟩) 1 1] 27 (0, 0)) := by rw [← hV]; exact blk_alloc _ _ _ (by simp)
    clear hV
    replace HF := Lib.hid (HF.out.step hb)
    replace HF := Lib.hid (HF.out.push (.x (W52.heap.size) #[.int .i64 0] 3) x0)
    replace HF := Lib.hid (HF.out.push (.x (W52.heap.size + 1) #[.int .i64 0] 3) x1)
    replace HF := Lib.hid (HF.out.push (.x (W52.heap.size + 2) #[.int .i64 0, .int .i64 2, .bool true, .slice (some ⟨W52.heap.size + 1, 0, none⟩) 1 1, .int .i64 23, .int .i64 0, .bool false, .slice (some ⟨W52.heap.size, 0, none⟩) 1 1] 27) x2)
    clear hb x0 x1 x2
    have hm : RdM V53 (some ⟨W52.heap.size + 2, 0, none⟩) exF := by
      refine Rd.blk [[.int .i64 0, .int .i64 2, .bool true, .slice (some ⟨W52.heap.size + 1, 0, none⟩) 1 1], [.int .i64 23, .int .i64 0, .bool false, .slice (some ⟨W52.heap.size, 0, none⟩) 1 1]] (show V53.heap[W52.heap.size + 2]? = some (.cells #[.int .i64 0, .int .i64 2, .bool true, .slice (some ⟨W52.heap.size + 1, 0, none⟩) 1 1, .int .i64 23, .int .i64 0, .bool false, .slice (some ⟨W52.heap.size, 0, none⟩) 1 1] 27 (0, 0)) from HF.out 0 _ rfl) rfl (by decide) rfl (by simp) fun k x cs hx hc => ?_
      rcases k with _ | _ | k
      · cases hx; cases hc; exact ⟨_, _, rfl, Nat.le_refl _, RdI.blk [0] (show V53.heap[W52.heap.size + 1]? = some (.cells #[.int .i64 0] 3 (0, 0)) from HF.out 1 _ rfl) rfl (by decide)⟩
      · cases hx; cases hc; exact ⟨_, _, rfl, Nat.le_refl _, RdI.blk [0] (show V53.heap[W52.heap.size]? = some (.cells #[.int .i64 0] 3 (0, 0)) from HF.out 2 _ rfl) rfl (by decide)⟩
      · simp at hc
    replace HF := Lib.hid (HF.out.push (.m ((some ⟨W52.heap.size + 2, 0, none⟩)) exF) hm)
    clear hm
    have hc := rEqual_any A12 (some ⟨W52.heap.size + 2, 0, none⟩) 2 2 c12 2 exF exF V53 (show RdM V53 (A12) exF from HF.out 13 _ rfl) (show RdM V53 ((some ⟨W52.heap.size + 2, 0, none⟩)) exF from HF.out 0 _ rfl) rfl rfl
    rw [decide_eq_true rfl] at hc
    refine hc.mono ?_
    clear hc
    rintro e W54 ⟨rfl, hb⟩
    replace HF := Lib.hid (HF.out.step hb)
    clear hb
    obtain ⟨k00, k01, k02, k0f, lk0⟩ := HF.out.box 41 rfl
    obtain ⟨k10, k11, k12, k1f, lk1⟩ := HF.out.box 32 rfl
    obtain ⟨k20, k21, k22, k2f, lk2⟩ := HF.out.box 29 rfl
    obtain ⟨k30, k31, k32, k3f, lk3⟩ := HF.out.box 35 rfl
    have hold := olds W54
    have K0 : ∀ x y z o, (((W54.alloc x).alloc y).alloc z).cell? ⟨W3.heap.size, o, none⟩ = W54.cell? ⟨W3.heap.size, o, none⟩ := fun x y z o => by rw [hold _ _ _ _ lk0 (by first|(simp;done)|(simp;omega)|omega), hold _ _ _ _ lk0 (by first|(simp;done)|(simp;omega)|omega), hold _ _ _ _ lk0 (by first|(simp;done)|(simp;omega)|omega)]
    have K1 : ∀ x y z o, (((W54.alloc x).alloc y).alloc z).cell? ⟨W13.heap.size, o, none⟩ = W54.cell? ⟨W13.heap.size, o, none⟩ := fun x y z o => by rw [hold _ _ _ _ lk1 (by first|(simp;done)|(simp;omega)|omega), hold _ _ _ _ lk1 (by first|(simp;done)|(simp;omega)|omega), hold _ _ _ _ lk1 (by first|(simp;done)|(simp;omega)|omega)]
    have K2 : ∀ x y z o, (((W54.alloc x).alloc y).alloc z).cell? ⟨W15.heap.size, o, none⟩ = W54.cell? ⟨W15.heap.size, o, none⟩ := fun x y z o => by rw [hold _ _ _ _ lk2 (by first|(simp;done)|(simp;omega)|omega), hold _ _ _ _ lk2 (by first|(simp;done)|(simp;omega)|omega), hold _ _ _ _ lk2 (by first|(simp;done)|(simp;omega)|omega)]
    have K3 : ∀ x y z o, (((W54.alloc x).alloc y).alloc z).cell? ⟨W11.heap.size, o, none⟩ = W54.cell? ⟨W11.heap.size, o, none⟩ := fun x y z o => by rw [hold _ _ _ _ lk3 (by first|(simp;done)|(simp;omega)|omega), hold _ _ _ _ lk3 (by first|(simp;done)|(simp;omega)|omega), hold _ _ _ _ lk3 (by first|(simp;done)|(simp;omega)|omega)]
    refine ⟨_, rfl, ?_, ?_⟩
    · exact ⟨(fun _ => ⟨_, drop_at rfl, by (first|(go_simp;done)|(go_simp;with_reducible rfl))⟩), (fun _ => ⟨_, drop_at rfl, by (first|(go_simp;done)|(go_simp;with_reducible rfl))⟩), (fun _ => ⟨_, drop_at rfl, by (first|(go_simp;done)|(go_simp;with_reducible rfl))⟩), (fun _ => ⟨_, drop_at rfl, by (first|(go_simp;done)|(go_simp;with_reducible rfl))⟩), trivial⟩
    simp only [Act.put, pA, pB, pC]
    refine ST.p (v := ?v1_11_94_109) rfl rfl rfl (fun W => ?h1_11_94_109) ?r1_11_94_109
    case h1_11_94_109 => (first|(go_simp;done)|(go_simp;with_reducible rfl)|(go_simp;constructor<;>with_reducible rfl))
    simp only [Act.put, pA, pB, pC]
    refine ST.p (v := ?v1_11_95_110) rfl rfl rfl (fun W => ?h1_11_95_110) ?r1_11_95_110
    case h1_11_95_110 => (first|(go_simp;done)|(go_simp;with_reducible rfl)|(go_simp;constructor<;>with_reducible rfl))
    simp only [Act.put, pA, pB, pC]
    simp only [ST]
    go_wp2
    go_ret
    exact ⟨rfl, (show Below w.heap.size w W54 from HF.out 46 _ rfl)⟩
   case x1_11_90_115 => exact ST.stop
  case x1_11_81_120 => exact ST.stop
end Go.Proofs.YtfommmijojfdbaaGreatDoor
